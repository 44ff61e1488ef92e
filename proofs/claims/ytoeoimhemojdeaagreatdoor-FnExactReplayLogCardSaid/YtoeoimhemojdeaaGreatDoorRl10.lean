/- Rl10: the texts Big ExO ExM LibW SplitL NumW ReadN, joined into one file. -/
import Derived.Deep.DeepCutAuto
import Derived.Test.YtoeoimhemojdeaaGreatDoorRl01
import Derived.Test.YtoeoimhemojdeaaGreatDoorRl03
import Derived.Test.YtoeoimhemojdeaaGreatDoorRl04
import Derived.Test.YtoeoimhemojdeaaGreatDoorRl05
import Derived.Test.YtoeoimhemojdeaaGreatDoorRl06
import Derived.Test.YtoeoimhemojdeaaGreatDoorRl07
import Derived.Test.YtoeoimhemojdeaaGreatDoorRl08
import Derived.Test.YtoeoimhemojdeaaGreatDoorRl09

set_option linter.unusedVariables false
open Go.Value renaming int → O, slice → F, string → sQ
open Go.IntKind renaming i64 → U

namespace Go.Proofs.YtoeoimhemojdeaaGreatDoor
open Go.RowKit
theorem mC (A:Option Addr) (c:Nat) (l:List aq) (w:World) (h:eX w w.heap.size A l) (hn:l.length≤1048576) :
  Calls Tryz.prog 147 #[F A l.length c] w fun e w'=>∃ A' c',e=.returned (F A' l.length c')∧w'.ownsRow w.heap.size 104 2 (F A' l.length c') l.length (l.flatMap aq.enc)∧Below w.heap.size w w':=by
 rcases A with _ | ad
 ·have h0:l.length=0:=by
   rcases Nat.eq_zero_or_pos l.length with h0 | h0
   ·exact h0
   ·obtain ⟨_,_,h1,_⟩:=h.at_ h0; cases h1
  obtain rfl:l = []:=List.eq_nil_of_length_eq_zero h0
  have hq:=fun W=>Lib.run_eql_slice_nil (P:=Tryz.prog) W 37 104 none 0 c 0 0 Tryz.underlying37
  go_enter Tryz.func147,Tryz.ntmps147
  go_wp2_with fail
  go_ret
  exact ⟨none,0,rfl,⟨by simp,.inl ⟨rfl,rfl⟩⟩,Below.refl _ _⟩
 ·have HO:Hid ((w.alloc (.cells #[] 104)).ownsRow w.heap.size 104 2 (F (some ⟨w.heap.size,0,none⟩) 0 0) 0 []):=cz (ai.new w 104 #[]) (Nat.le_refl _)
  have b1:=(Below.refl w.heap.size w).alloc (Nat.le_refl _) (.cells #[] 104)
  have HR:=Lib.hid (br.below h b1)
  have hq:=fun W=>Lib.run_eql_slice_nil (P:=Tryz.prog) W 37 104 (some ad) l.length c 0 0 Tryz.underlying37
  go_enter Tryz.func147,Tryz.ntmps147
  go_wp2_with (at_builtin; refine fZ rfl _ _ 37 rfl 104 _ 2 16 Tryz.underlying37 dj rfl (by omega) (by omega) w.heap.size _ 0 [] rfl HO w.heap.size (some ad) l.length c (l.flatMap aq.enc) rfl HR dF (by omega) b1.size ?_; intro v' w1 hown _ hb2 _)
  go_ret
  have ho:=hown.out
  rw [Nat.zero_add,List.nil_append] at ho
  obtain ⟨A',c',rfl⟩:=aw ho
  exact ⟨A',c',rfl,ho,b1.trans hb2⟩
theorem ls (A:Option Addr) (c:Nat) (l:List ae) (w:World) (h:dI w w.heap.size A l) (hn:l.length≤1048576) :
  Calls Tryz.prog 148 #[F A l.length c] w fun e w'=>∃ A' c',e=.returned (F A' l.length c')∧w'.ownsRow w.heap.size 147 3 (F A' l.length c') l.length (l.flatMap ae.enc)∧Below w.heap.size w w':=by
 rcases A with _ | ad
 ·have h0:l.length=0:=by
   rcases Nat.eq_zero_or_pos l.length with h0 | h0
   ·exact h0
   ·obtain ⟨_,_,h1,_⟩:=h.at_ h0; cases h1
  obtain rfl:l = []:=List.eq_nil_of_length_eq_zero h0
  have hq:=fun W=>Lib.run_eql_slice_nil (P:=Tryz.prog) W 38 147 none 0 c 0 0 Tryz.underlying38
  go_enter Tryz.func148,Tryz.ntmps148
  go_wp2_with fail
  go_ret
  exact ⟨none,0,rfl,⟨by simp,.inl ⟨rfl,rfl⟩⟩,Below.refl _ _⟩
 ·have HO:Hid ((w.alloc (.cells #[] 147)).ownsRow w.heap.size 147 3 (F (some ⟨w.heap.size,0,none⟩) 0 0) 0 []):=cz (ai.new w 147 #[]) (Nat.le_refl _)
  have b1:=(Below.refl w.heap.size w).alloc (Nat.le_refl _) (.cells #[] 147)
  have HR:=Lib.hid (br.below h b1)
  have hq:=fun W=>Lib.run_eql_slice_nil (P:=Tryz.prog) W 38 147 (some ad) l.length c 0 0 Tryz.underlying38
  go_enter Tryz.func148,Tryz.ntmps148
  go_wp2_with (at_builtin; refine fZ rfl _ _ 38 rfl 147 _ 3 24 Tryz.underlying38 dE rfl (by omega) (by omega) w.heap.size _ 0 [] rfl HO w.heap.size (some ad) l.length c (l.flatMap ae.enc) rfl HR ep (by omega) b1.size ?_; intro v' w1 hown _ hb2 _)
  go_ret
  have ho:=hown.out
  rw [Nat.zero_add,List.nil_append] at ho
  obtain ⟨A',c',rfl⟩:=aw ho
  exact ⟨A',c',rfl,ho,b1.trans hb2⟩
set_option maxRecDepth 100000 in
set_option maxHeartbeats 4000000 in
theorem mb (x:aM) (g:Nat) (w:World) (h:bT w w.heap.size g x) (tl:x.t.length≤1048576) (ol:x.o.length≤1048576) :
  Calls Tryz.prog 93 #[.pointer (some ⟨g,0,none⟩)] w fun e w'=>∃ TA tc OA oc,e=.returned (aM.val (x.c.at TA tc OA oc))∧w'.ownsRow w.heap.size 104 2 (F TA x.t.length tc) x.t.length (x.t.flatMap aq.enc)∧w'.ownsRow w.heap.size 147 3 (F OA x.o.length oc) x.o.length (x.o.flatMap ae.enc)∧Below w.heap.size w w':=by
 have b1:=(Below.refl w.heap.size w).alloc (Nat.le_refl _) (.cells #[F none 0 0,F none 0 0,O U 0,O U 0,O U 0] 40)
 have L1:=ai.new w 40 #[F none 0 0,F none 0 0,O U 0,O U 0,O U 0]
 have hA:=h.then b1 b1.size
 go_enter Tryz.func93,Tryz.ntmps93
 go_wp2
 generalize w.alloc (.cells #[F none 0 0,F none 0 0,O U 0,O U 0,O U 0] 40)=W at b1 L1 hA ⊢
 have cT:∀ W',Below W.heap.size W W'→Calls Tryz.prog 147 #[F x.TA x.t.length x.tc] W' (fun e w'=>∃ A c,e=.returned (F A x.t.length c)∧w'.ownsRow w.heap.size 104 2 (F A x.t.length c) x.t.length (x.t.flatMap aq.enc)∧Below W'.heap.size W' w'∧Below W.heap.size W w'):=fun W' hb =>
  (mC x.TA x.tc x.t W' (hA.r.up hb (Nat.le_refl _)).ts tl).mono fun e w' ⟨A,c,he,ho,hb'⟩=>⟨A,c,he,af ho (Nat.le_trans b1.size hb.size),hb',ar hb hb'⟩
 have cO:∀ W',Below W.heap.size W W'→Calls Tryz.prog 148 #[F x.OA x.o.length x.oc] W' (fun e w'=>∃ A c,e=.returned (F A x.o.length c)∧w'.ownsRow w.heap.size 147 3 (F A x.o.length c) x.o.length (x.o.flatMap ae.enc)∧Below W'.heap.size W' w'∧Below W.heap.size W w'):=fun W' hb =>
  (ls x.OA x.oc x.o W' (hA.r.up hb (Nat.le_refl _)).os ol).mono fun e w' ⟨A,c,he,ho,hb'⟩=>⟨A,c,he,af ho (Nat.le_trans b1.size hb.size),hb',ar hb hb'⟩
 have HK0:∀ W',Below w.heap.size w W'→(Below w.heap.size w W'∧W'.cell? ⟨g,0,none⟩=some (F x.TA x.t.length x.tc)∧W'.cell? ⟨g,1,none⟩=some (F x.OA x.o.length x.oc)∧W'.cell? ⟨g,2,none⟩=some (O U x.got)∧W'.cell? ⟨g,3,none⟩=some (O U x.sold)∧W'.cell? ⟨g,4,none⟩=some (O U x.missed)):=fun W' hb =>
  ⟨hb,h.s.c0 ⟨W',hb⟩,h.s.c1 ⟨W',hb⟩,h.s.c2 ⟨W',hb⟩,h.s.c3 ⟨W',hb⟩,h.s.c4 ⟨W',hb⟩⟩
 have HK:∀ W',Below W.heap.size W W'→(Below w.heap.size w W'∧W'.cell? ⟨g,0,none⟩=some (F x.TA x.t.length x.tc)∧W'.cell? ⟨g,1,none⟩=some (F x.OA x.o.length x.oc)∧W'.cell? ⟨g,2,none⟩=some (O U x.got)∧W'.cell? ⟨g,3,none⟩=some (O U x.sold)∧W'.cell? ⟨g,4,none⟩=some (O U x.missed)):=fun W' hb=>HK0 W' (b1.trans (hb.mono b1.size))
 have HKs:∀ W' (u0 u1 u2 u3 u4:Value),Below W.heap.size W W'→(Below w.heap.size w (((((W'.setCell ⟨w.heap.size,0,none⟩ u0).setCell ⟨w.heap.size,1,none⟩ u1).setCell ⟨w.heap.size,2,none⟩ u2).setCell ⟨w.heap.size,3,none⟩ u3).setCell ⟨w.heap.size,4,none⟩ u4)∧(((((W'.setCell ⟨w.heap.size,0,none⟩ u0).setCell ⟨w.heap.size,1,none⟩ u1).setCell ⟨w.heap.size,2,none⟩ u2).setCell ⟨w.heap.size,3,none⟩ u3).setCell ⟨w.heap.size,4,none⟩ u4).cell? ⟨g,0,none⟩=some (F x.TA x.t.length x.tc)∧(((((W'.setCell ⟨w.heap.size,0,none⟩ u0).setCell ⟨w.heap.size,1,none⟩ u1).setCell ⟨w.heap.size,2,none⟩ u2).setCell ⟨w.heap.size,3,none⟩ u3).setCell ⟨w.heap.size,4,none⟩ u4).cell? ⟨g,1,none⟩=some (F x.OA x.o.length x.oc)∧(((((W'.setCell ⟨w.heap.size,0,none⟩ u0).setCell ⟨w.heap.size,1,none⟩ u1).setCell ⟨w.heap.size,2,none⟩ u2).setCell ⟨w.heap.size,3,none⟩ u3).setCell ⟨w.heap.size,4,none⟩ u4).cell? ⟨g,2,none⟩=some (O U x.got)∧(((((W'.setCell ⟨w.heap.size,0,none⟩ u0).setCell ⟨w.heap.size,1,none⟩ u1).setCell ⟨w.heap.size,2,none⟩ u2).setCell ⟨w.heap.size,3,none⟩ u3).setCell ⟨w.heap.size,4,none⟩ u4).cell? ⟨g,3,none⟩=some (O U x.sold)∧(((((W'.setCell ⟨w.heap.size,0,none⟩ u0).setCell ⟨w.heap.size,1,none⟩ u1).setCell ⟨w.heap.size,2,none⟩ u2).setCell ⟨w.heap.size,3,none⟩ u3).setCell ⟨w.heap.size,4,none⟩ u4).cell? ⟨g,4,none⟩=some (O U x.missed)):=fun W' u0 u1 u2 u3 u4 hb=>HK0 _ ((b1.trans (hb.mono b1.size)).grown (ac (ac (ac (ac (ac (World.grownBy.refl W' (some w.heap.size))))))) (Nat.le_trans b1.size hb.size) (by rintro _ ⟨⟩; exact Nat.le_refl _))
 have HZ:∀ W',Below W.heap.size W W'→(W'.cell? ⟨w.heap.size,0,none⟩=some (F none 0 0)∧W'.cell? ⟨w.heap.size,1,none⟩=some (F none 0 0)∧W'.cell? ⟨w.heap.size,2,none⟩=some (O U 0)∧W'.cell? ⟨w.heap.size,3,none⟩=some (O U 0)∧W'.cell? ⟨w.heap.size,4,none⟩=some (O U 0) ∧
   W'.frozen? ⟨w.heap.size,0,none⟩=false∧W'.frozen? ⟨w.heap.size,1,none⟩=false∧W'.frozen? ⟨w.heap.size,2,none⟩=false∧W'.frozen? ⟨w.heap.size,3,none⟩=false∧W'.frozen? ⟨w.heap.size,4,none⟩=false):=fun W' hb =>
  have L:=L1.below hb L1.lt
  ⟨L.cell 0,L.cell 1,L.cell 2,L.cell 3,L.cell 4,L.frozen 0,L.frozen 1,L.frozen 2,L.frozen 3,L.frozen 4⟩
 have HL1:=Lib.hid L1; clear L1
 have HB1:=Lib.hid b1; clear b1
 clear hA h
 go_region_held3 (fun W'=>(Below w.heap.size w W'∧W'.cell? ⟨g,0,none⟩=some (F x.TA x.t.length x.tc)∧W'.cell? ⟨g,1,none⟩=some (F x.OA x.o.length x.oc)∧W'.cell? ⟨g,2,none⟩=some (O U x.got)∧W'.cell? ⟨g,3,none⟩=some (O U x.sold)∧W'.cell? ⟨g,4,none⟩=some (O U x.missed))) (first | exact HK _ (Below.refl _ _).drew | exact HK _ hb9 | exact HK _ hb8 | exact HKs _ _ _ _ _ _ hb9 | exact HKs _ _ _ _ _ _ hb8) (first | (go_at_call 147; (first | (refine (cT _ (Below.refl _ _).drew).mono ?_) | (refine (cT _ hb9).mono ?_)); rintro e w8 ⟨A8,c8,rfl,ho8,hk8,hb8⟩; obtain ⟨z0,z1,z2,z3,z4,f0,f1,f2,f3,f4⟩:=HZ _ hb8) | (go_at_call 148; (first | (refine (cO _ (Below.refl _ _).drew).mono ?_) | (refine (cO _ hb8).mono ?_)); rintro e w9 ⟨A9,c9,rfl,ho9,hk9,hb9⟩; obtain ⟨y0,y1,y2,y3,y4,g0,g1,g2,g3,g4⟩:=HZ _ hb9))
 have hL9:ai w9 w.heap.size 40 [F none 0 0,F none 0 0,O U 0,O U 0,O U 0]:=HL1.out.below hb9 HL1.out.lt
 have e0:=(((((hL9.set 0 (F A8 x.t.length c8)).set 1 (F A9 x.o.length c9)).set 2 (O U x.got)).set 3 (O U x.sold)).set 4 (O U x.missed))
 have hgr:=ac (g:=w.heap.size) (i:=4) (u:=O U x.missed) (ac (g:=w.heap.size) (i:=3) (u:=O U x.sold) (ac (g:=w.heap.size) (i:=2) (u:=O U x.got) (ac (g:=w.heap.size) (i:=1) (u:=F A9 x.o.length c9) (ac (g:=w.heap.size) (i:=0) (u:=F A8 x.t.length c8) (World.grownBy.refl w9 (some w.heap.size))))))
 have r8:=aj (ab ho8 hk9) hL9 ez hgr
 have r9:=aj ho9 hL9 dY hgr
 have b9:Below w.heap.size w w9:=HB1.out.trans (hb9.mono HB1.out.size)
 have b10:=b9.grown hgr b9.size (by rintro _ ⟨⟩; exact Nat.le_refl _)
 generalize (((((w9.setCell ⟨w.heap.size,0,none⟩ (F A8 x.t.length c8)).setCell ⟨w.heap.size,1,none⟩ (F A9 x.o.length c9)).setCell ⟨w.heap.size,2,none⟩ (O U x.got)).setCell ⟨w.heap.size,3,none⟩ (O U x.sold)).setCell ⟨w.heap.size,4,none⟩ (O U x.missed))=W10 at e0 hgr r8 r9 b10 ⊢
 simp only [List.set_cons_zero,List.set_cons_succ] at e0
 obtain ⟨k0,k1,k2,k3,k4⟩:=cells5 e0
 have R8:=Lib.hid r8; clear r8
 have R9:=Lib.hid r9; clear r9
 clear z0 z1 z2 z3 z4 f0 f1 f2 f3 f4 y0 y1 y2 y3 y4 g0 g1 g2 g3 g4 ho8 ho9 hgr
 go_wp2
 refine bodyPost_ret (v:=aM.val (x.c.at A8 c8 A9 c9)) (by simp [results,Tryz.results93,go_sem,Oc.at,aM.c, *]) rfl ⟨A8,c8,A9,c9,rfl,R8.out,R9.out,b10⟩
theorem lf {P:Program} {ops:Array Oper} {tm:Array Value} {o:Oper} {a:Act} {w:World} {K:Act→World→Prop} {Q:Exit→Act→World→Prop} {E:Prop}
  (hg:o.guard=none) (s x:Operand) (t:TypeId) (ho:o.op=.call { callee:=.builtin .append,args:=#[s,x],argTypes:=#[t,t] })
  (e:TypeId) (z:Value) (k bytes:Nat) (ht:P.underlying t=some (.slice e)) (hinfo:(P.info? e).map (fun i=>(i.zero,i.size,i.bytes))=some (some z,k,bytes)) (hzs:z.cells.size=k) (hsz:0 < k) (hby:bytes≤1000)
  (B g:Nat) (hs:a.eval s=F (some ⟨g,0,none⟩) 0 0) (hL:ai w g e []) (hB:B≤g)
  (S:Nat) (A:Option Addr) (m c:Nat) (cs:List Value) (hx:a.eval x=F A m c) (hr:br w S k A m cs) (h1:∀ u ∈ cs,u.oneCell'=true) (hm:m≤1048576)
  (h:∀ v' w',w'.ownsRow B e k v' m cs→Below w.heap.size w w'→K (a.put o.dst v') w'):if Region.wanted o (yielded ops tm)=true then o.wp P a w K Q else E:=by
 have hw:∀ tm:Array Value,Region.wanted o (yielded ops tm)=true:=fun tm=>by simp [Region.wanted,hg]
 rw [if_pos (hw _)]
 obtain ⟨i,hi,hz,hs',hb⟩:=info_parts hinfo
 have hbytes:(0+m) * bytes≤140737488355328:=by have:=Nat.mul_le_mul (show 0+m≤1048576 by omega) hby; omega
 have hlt:=hL.lt
 rcases Nat.eq_zero_or_pos m with h0 | h0
 ·subst h0
  have hc0:cs = []:=List.eq_nil_of_length_eq_zero (by simpa using hr.len)
  subst hc0
  have hown:w.ownsRow B e k (F (some ⟨g,0,none⟩) 0 0) 0 []:=cz hL hB
  have hrun:(Builtin.append_ #[t,t] o.type #[F (some ⟨g,0,none⟩) 0 0,F A 0 c]).run P w=.ok (F (some ⟨g,0,none⟩) 0 0) w:=by
   rcases A with _ | ad
   ·exact gB w B t o.type e i k ht hi _ 0 [] hown c
   ·simp [Builtin.append_,run_underlying ht,sizeOf,typeInfo,hi,Builtin.lenOf,Builtin.firstCells,loadCells,loadCellsFrom,storeCells]
  unfold Oper.wp execOp
  simp only [ho,resolve,invoke,builtin,Sem.run_bind,Sem.run_pure,Result.andThen_ok,List.map_toArray,List.map_cons,List.map_nil,hs,hx,hrun]
  exact h _ _ hown (Below.refl _ _)
 ·obtain ⟨b,off,rfl,hlt',hcell⟩:=hr.at_ h0
  have key:=step_append_grows (P:=P) (ops:=ops) (a:=a) (w:=w) (K:=K) (Q:=Q) (E:=E) hg s x t ho e i z k bytes ht hi hz hs' hb hzs hsz (some ⟨g,0,none⟩) 0 0 [] hs (by simp) (by simp) (by simp) ⟨b,off,none⟩ m c cs hx hr.len (fun j u hu=>by rw [bY]; exact hcell j u hu) h1 (by omega) (by unfold maxLen; omega) hbytes (fun v' w' h2 h3=>by
   rw [Nat.zero_add,List.nil_append] at h2
   exact h v' w' (af h2 (by omega)) ((Below.refl _ _).grown h3 (Nat.le_refl _) (fun j hj=>by cases hj)))
  rw [if_pos (hw _)] at key
  exact key
set_option maxRecDepth 100000 in
set_option maxHeartbeats 4000000 in
theorem pN (x:aM) (w:World) (h:aQ w w.heap.size x) (tl:x.t.length≤1048576) (ol:x.o.length≤1048576) :
  Calls Tryz.prog 81 #[x.val] w (dr w x.c):=by
 have L1:=(ai.new w 40 #[F x.TA x.t.length x.tc,F x.OA x.o.length x.oc,O U x.got,O U x.sold,O U x.missed]).alloc (.cells #[F none 0 0,F none 0 0,O U 0,O U 0,O U 0] 40)
 have L2:=ai.new1 w (.cells #[F x.TA x.t.length x.tc,F x.OA x.o.length x.oc,O U x.got,O U x.sold,O U x.missed] 40) 40 #[F none 0 0,F none 0 0,O U 0,O U 0,O U 0]
 have b1:=(Below.refl w.heap.size w).alloc (Nat.le_refl _) (.cells #[F x.TA x.t.length x.tc,F x.OA x.o.length x.oc,O U x.got,O U x.sold,O U x.missed] 40)
 have b2:=b1.alloc b1.size (.cells #[F none 0 0,F none 0 0,O U 0,O U 0,O U 0] 40)
 clear b1
 go_enter Tryz.func81,Tryz.ntmps81
 go_wp2_with fail
 generalize ((w.alloc (.cells #[F x.TA x.t.length x.tc,F x.OA x.o.length x.oc,O U x.got,O U x.sold,O U x.missed] 40)).alloc (.cells #[F none 0 0,F none 0 0,O U 0,O U 0,O U 0] 40))=W at L1 L2 b2 ⊢
 have hR:=h.up b2 (Nat.le_refl _)
 have hT:=hR.ts
 have hO:=hR.os
 have l1:=L1.lt
 have l2:=L2.lt
 clear h hR
 refine eu (fun W9=>Below W.heap.size W W9) (fun w1 w2=>Below w1.heap.size w1 w2) (by kernel_rfl) (by kernel_rfl) (by kernel_rfl) (by kernel_rfl) (Below.refl _ _).drew ?_
 simp only [ax,Act.put,List.setIfInBounds_toArray,List.set_cons_zero,List.set_cons_succ,Nat.zero_add,Nat.reduceAdd]
 refine bX (fun v w9=>∃ g,v=F (some ⟨g,0,none⟩) 0 0∧w.heap.size≤g∧ai w9 g 104 []) (fun v w1 w2 hv hT'=>by obtain ⟨g,e,hg,hl⟩:=hv; exact ⟨g,e,hg,hl.below hT' hl.lt⟩) (fun vs w9 hC9 hB K9 hK9=>?_) ?_
 ·go_simp
  exact hK9 _ _ _ rfl ⟨_,rfl,Nat.le_trans b2.size hC9.size,ai.new w9 104 #[]⟩ (hC9.alloc hC9.size _) ((Below.refl _ _).alloc (Nat.le_refl _) _)
 refine aD (.pointer (some ⟨w.heap.size,0,none⟩)) (fun vs w9 hC9 hB K9 hK9=>?_) ?_
 ·go_simp
  exact hK9 _ _ rfl hC9 (Below.refl _ _)
 refine aD (F x.TA x.t.length x.tc) (fun vs w9 hC9 hB K9 hK9=>?_) ?_
 ·have hd:=hB 1 _ (by kernel_rfl) rfl
  simp only [hd] at hK9 ⊢
  have q1:w9.cell? ⟨w.heap.size,0,none⟩=some (F x.TA x.t.length x.tc):=(L1.below hC9 L1.lt).cell 0
  go_simp
  exact hK9 _ _ rfl hC9 (Below.refl _ _)
 refine bX (fun v w9=>∃ A c,v=F A x.t.length c∧w9.ownsRow w.heap.size 104 2 (F A x.t.length c) x.t.length (x.t.flatMap aq.enc)) (fun v w1 w2 hv hT'=>by obtain ⟨A,c,e,ho⟩:=hv; exact ⟨A,c,e,ab ho hT'⟩) (fun vs w9 hC9 hB K9 hK9=>?_) ?_
 ·obtain ⟨g,e0,hg,hl⟩:=hB 0 _ (by kernel_rfl) rfl
  have hd:=hB 2 _ (by kernel_rfl) rfl
  simp only [e0,hd] at hK9 ⊢
  refine lf rfl (.tmp 3) (.tmp 5) 37 rfl 104 _ 2 16 Tryz.underlying37 dj rfl (by omega) (by omega) w.heap.size g (by rfl) hl hg W.heap.size x.TA x.t.length x.tc (x.t.flatMap aq.enc) (by rfl) (br.below hT hC9) dF tl ?_
  intro v' w' ho hb
  obtain ⟨A',c',rfl⟩:=aw ho
  exact hK9 _ _ _ rfl ⟨A',c',rfl,ho⟩ (hC9.trans (hb.mono hC9.size)) hb
 refine bX (fun v w9=>∃ g,v=F (some ⟨g,0,none⟩) 0 0∧w.heap.size≤g∧ai w9 g 147 []) (fun v w1 w2 hv hT'=>by obtain ⟨g,e,hg,hl⟩:=hv; exact ⟨g,e,hg,hl.below hT' hl.lt⟩) (fun vs w9 hC9 hB K9 hK9=>?_) ?_
 ·go_simp
  exact hK9 _ _ _ rfl ⟨_,rfl,Nat.le_trans b2.size hC9.size,ai.new w9 147 #[]⟩ (hC9.alloc hC9.size _) ((Below.refl _ _).alloc (Nat.le_refl _) _)
 refine aD (.pointer (some ⟨w.heap.size,1,none⟩)) (fun vs w9 hC9 hB K9 hK9=>?_) ?_
 ·go_simp
  exact hK9 _ _ rfl hC9 (Below.refl _ _)
 refine aD (F x.OA x.o.length x.oc) (fun vs w9 hC9 hB K9 hK9=>?_) ?_
 ·have hd:=hB 5 _ (by kernel_rfl) rfl
  simp only [hd] at hK9 ⊢
  have q1:w9.cell? ⟨w.heap.size,1,none⟩=some (F x.OA x.o.length x.oc):=(L1.below hC9 L1.lt).cell 1
  go_simp
  exact hK9 _ _ rfl hC9 (Below.refl _ _)
 refine bX (fun v w9=>∃ A c,v=F A x.o.length c∧w9.ownsRow w.heap.size 147 3 (F A x.o.length c) x.o.length (x.o.flatMap ae.enc)) (fun v w1 w2 hv hT'=>by obtain ⟨A,c,e,ho⟩:=hv; exact ⟨A,c,e,ab ho hT'⟩) (fun vs w9 hC9 hB K9 hK9=>?_) ?_
 ·obtain ⟨g,e0,hg,hl⟩:=hB 4 _ (by kernel_rfl) rfl
  have hd:=hB 6 _ (by kernel_rfl) rfl
  simp only [e0,hd] at hK9 ⊢
  refine lf rfl (.tmp 7) (.tmp 9) 38 rfl 147 _ 3 24 Tryz.underlying38 dE rfl (by omega) (by omega) w.heap.size g (by rfl) hl hg W.heap.size x.OA x.o.length x.oc (x.o.flatMap ae.enc) (by rfl) (br.below hO hC9) ep ol ?_
  intro v' w' ho hb
  obtain ⟨A',c',rfl⟩:=aw ho
  exact hK9 _ _ _ rfl ⟨A',c',rfl,ho⟩ (hC9.trans (hb.mono hC9.size)) hb
 refine aD (.pointer (some ⟨w.heap.size,2,none⟩)) (fun vs w9 hC9 hB K9 hK9=>?_) ?_
 ·go_simp
  exact hK9 _ _ rfl hC9 (Below.refl _ _)
 refine aD (O U x.got) (fun vs w9 hC9 hB K9 hK9=>?_) ?_
 ·have hd:=hB 8 _ (by kernel_rfl) rfl
  simp only [hd] at hK9 ⊢
  have q1:w9.cell? ⟨w.heap.size,2,none⟩=some (O U x.got):=(L1.below hC9 L1.lt).cell 2
  go_simp
  exact hK9 _ _ rfl hC9 (Below.refl _ _)
 refine aD (.pointer (some ⟨w.heap.size,3,none⟩)) (fun vs w9 hC9 hB K9 hK9=>?_) ?_
 ·go_simp
  exact hK9 _ _ rfl hC9 (Below.refl _ _)
 refine aD (O U x.sold) (fun vs w9 hC9 hB K9 hK9=>?_) ?_
 ·have hd:=hB 10 _ (by kernel_rfl) rfl
  simp only [hd] at hK9 ⊢
  have q1:w9.cell? ⟨w.heap.size,3,none⟩=some (O U x.sold):=(L1.below hC9 L1.lt).cell 3
  go_simp
  exact hK9 _ _ rfl hC9 (Below.refl _ _)
 refine aD (.pointer (some ⟨w.heap.size,4,none⟩)) (fun vs w9 hC9 hB K9 hK9=>?_) ?_
 ·go_simp
  exact hK9 _ _ rfl hC9 (Below.refl _ _)
 refine aD (O U x.missed) (fun vs w9 hC9 hB K9 hK9=>?_) ?_
 ·have hd:=hB 12 _ (by kernel_rfl) rfl
  simp only [hd] at hK9 ⊢
  have q1:w9.cell? ⟨w.heap.size,4,none⟩=some (O U x.missed):=(L1.below hC9 L1.lt).cell 4
  go_simp
  exact hK9 _ _ rfl hC9 (Below.refl _ _)
 refine bX (fun v w9=>∃ A c A' c',v=.agg #[F A x.t.length c,F A' x.o.length c',O U x.got,O U x.sold,O U x.missed]∧w9.ownsRow w.heap.size 104 2 (F A x.t.length c) x.t.length (x.t.flatMap aq.enc)∧w9.ownsRow w.heap.size 147 3 (F A' x.o.length c') x.o.length (x.o.flatMap ae.enc))
  (fun v w1 w2 hv hT'=>by obtain ⟨A,c,A',c',e,ho,hp⟩:=hv; exact ⟨A,c,A',c',e,ab ho hT',ab hp hT'⟩) (fun vs w9 hC9 hB K9 hK9=>?_) ?_
 ·obtain ⟨A,c,e3,ho⟩:=hB 3 _ (by kernel_rfl) rfl
  obtain ⟨A',c',e7,hp⟩:=hB 7 _ (by kernel_rfl) rfl
  have d9:=hB 9 _ (by kernel_rfl) rfl
  have d11:=hB 11 _ (by kernel_rfl) rfl
  have d13:=hB 13 _ (by kernel_rfl) rfl
  have ho:=Lib.hid ho
  have hp:=Lib.hid hp
  simp only [e3,e7,d9,d11,d13] at hK9 ⊢
  go_simp
  exact hK9 _ _ _ rfl ⟨A,c,A',c',rfl,ho.out,hp.out⟩ hC9 (Below.refl _ _)
 refine ft (fun vs w9 hC9 hB K9 hK9=>?_)
 obtain ⟨A,c,A',c',e14,ho,hp⟩:=hB 14 _ rfl
 simp only [e14] at hK9 ⊢
 have L2z:=L2.below hC9 L2.lt
 have z0:=L2z.cell 0
 have z1:=L2z.cell 1
 have z2:=L2z.cell 2
 have z3:=L2z.cell 3
 have z4:=L2z.cell 4
 obtain ⟨f0,f1,f2,f3,f4⟩:=frz5 L2z
 simp only [List.getElem?_cons_zero,List.getElem?_cons_succ] at z0 z1 z2 z3 z4
 have hgr:=(ac (g:=w.heap.size+1) (i:=4) (u:=O U x.missed) (ac (g:=w.heap.size+1) (i:=3) (u:=O U x.sold) (ac (g:=w.heap.size+1) (i:=2) (u:=O U x.got) (ac (g:=w.heap.size+1) (i:=1) (u:=F A' x.o.length c') (ac (g:=w.heap.size+1) (i:=0) (u:=F A x.t.length c) (World.grownBy.refl w9 (some (w.heap.size+1))))))))
 have bw:=b2.trans (hC9.mono b2.size)
 have bz:=bw.grown hgr bw.size (by rintro _ ⟨⟩; omega)
 have R8:=Lib.hid (aj ho L2z cq hgr)
 have R9:=Lib.hid (aj hp L2z cF hgr)
 clear hgr ho hp hB L2z
 go_simp
 refine hK9 _ _ ?_
 clear hK9 K9
 go_wp2
 refine bodyPost_ret (v:=.agg #[F A x.t.length c,F A' x.o.length c',O U x.got,O U x.sold,O U x.missed]) (by simp [results,Tryz.results81,go_sem, *]) rfl ?_
 exact ⟨A,c,A',c',rfl,R8.out,R9.out,bz⟩
def kB (w:World) (B:Nat) (y:Oc) (l:Lg) (v:Value):Prop :=
 ∃ TA tc OA oc,v=.agg #[F TA y.t.length tc,F OA y.o.length oc,O U y.got,O U y.sold,O U y.missed,sQ l.D,sQ l.P,O U l.n]∧w.ownsRow B 104 2 (F TA y.t.length tc) y.t.length (y.t.flatMap aq.enc)∧w.ownsRow B 147 3 (F OA y.o.length oc) y.o.length (y.o.flatMap ae.enc)
def rT (w:World) (y:Oc) (l:Lg) (e:Ending) (w' : World):Prop:=∃ v,e=.returned v∧kB w' w.heap.size y l v∧Below w.heap.size w w'
theorem kB.below {w w' : World} {B:Nat} {y:Oc} {l:Lg} {v:Value} (h:kB w B y l v) (hb:Below w.heap.size w w'):kB w' B y l v:=by
 obtain ⟨TA,tc,OA,oc,e,h1,h2⟩:=h
 exact ⟨TA,tc,OA,oc,e,ab h1 hb,ab h2 hb⟩
theorem kB.lower {w:World} {B B' : Nat} {y:Oc} {l:Lg} {v:Value} (h:kB w B y l v) (hB:B'≤B):kB w B' y l v:=by
 obtain ⟨TA,tc,OA,oc,e,h1,h2⟩:=h
 exact ⟨TA,tc,OA,oc,e,af h1 hB,af h2 hB⟩
theorem kB.as {w:World} {B:Nat} {y:Oc} {l:Lg} {v:Value} (h:kB w B y l v):∃ X:aM,v=aL X l∧X.c=y∧aQ w w.heap.size X∧X.t.length≤X.tc:=by
 obtain ⟨TA,tc,OA,oc,e,h1,h2⟩:=h
 exact ⟨y.at TA tc OA oc,e,rfl,⟨aB h1,aB h2⟩,iL h1⟩
theorem gL {w0 w:World} {B g:Nat} {t:TypeId} {x0 x1 x2 x3 x4:Value} {r:List Value} (hL:ai w g t (x0 :: x1 :: x2 :: x3 :: x4 :: r)) (b:Below B w0 w) (hB:B≤g) (a0 a1 a2 a3 a4:Value) :
  ∃ W' : World,Hid ((((((w.setCell ⟨g,0,none⟩ a0).setCell ⟨g,1,none⟩ a1).setCell ⟨g,2,none⟩ a2).setCell ⟨g,3,none⟩ a3).setCell ⟨g,4,none⟩ a4)=W')∧ai W' g t (a0 :: a1 :: a2 :: a3 :: a4 :: r)∧Below B w0 W'∧w.grownBy W' (some g)∧(∀ g' t' cs',g' ≠ g→ai w g' t' cs'→ai W' g' t' cs'):=by
 have gr:w.grownBy (((((w.setCell ⟨g,0,none⟩ a0).setCell ⟨g,1,none⟩ a1).setCell ⟨g,2,none⟩ a2).setCell ⟨g,3,none⟩ a3).setCell ⟨g,4,none⟩ a4) (some g):=ac (g:=g) (i:=4) (u:=a4) (ac (g:=g) (i:=3) (u:=a3) (ac (g:=g) (i:=2) (u:=a2) (ac (g:=g) (i:=1) (u:=a1) (ac (g:=g) (i:=0) (u:=a0) (World.grownBy.refl w (some g))))))
 exact ⟨_,rfl,(((((hL).set 0 a0).set 1 a1).set 2 a2).set 3 a3).set 4 a4,(((((b).setCell (p:=⟨g,0,none⟩) hB a0).setCell (p:=⟨g,1,none⟩) hB a1).setCell (p:=⟨g,2,none⟩) hB a2).setCell (p:=⟨g,3,none⟩) hB a3).setCell (p:=⟨g,4,none⟩) hB a4,gr,fun g' t' cs' hne h=>h.kept gr (by intro e; injection e with e; exact hne e)⟩
theorem eN:104 ≠ 42:=by decide
theorem eQ:147 ≠ 42:=by decide
def db (w:World) (B g:Nat) (y:Oc) (l:Lg):Prop :=
 ∃ TA tc OA oc,ai w g 42 [F TA y.t.length tc,F OA y.o.length oc,O U y.got,O U y.sold,O U y.missed,sQ l.D,sQ l.P,O U l.n]∧w.ownsRow B 104 2 (F TA y.t.length tc) y.t.length (y.t.flatMap aq.enc)∧w.ownsRow B 147 3 (F OA y.o.length oc) y.o.length (y.o.flatMap ae.enc)
theorem db.below {w w' : World} {B g:Nat} {y:Oc} {l:Lg} (h:db w B g y l) (hb:Below w.heap.size w w'):db w' B g y l:=by
 obtain ⟨TA,tc,OA,oc,hL,h1,h2⟩:=h
 exact ⟨TA,tc,OA,oc,hL.below hb hL.lt,ab h1 hb,ab h2 hb⟩
theorem db.lower {w:World} {B B' g:Nat} {y:Oc} {l:Lg} (h:db w B g y l) (hB:B'≤B):db w B' g y l:=by
 obtain ⟨TA,tc,OA,oc,hL,h1,h2⟩:=h
 exact ⟨TA,tc,OA,oc,hL,af h1 hB,af h2 hB⟩
theorem db.put {w:World} {B g:Nat} {y:Oc} {l:Lg} {TA OA:Option Addr} {tc oc:Nat} {a0 a1 a2 a3 a4 a5 a6 a7:Value} (hL:ai w g 42 [a0,a1,a2,a3,a4,a5,a6,a7]) (h1:w.ownsRow B 104 2 (F TA y.t.length tc) y.t.length (y.t.flatMap aq.enc)) (h2:w.ownsRow B 147 3 (F OA y.o.length oc) y.o.length (y.o.flatMap ae.enc)) :
  db ((((((((w.setCell ⟨g,0,none⟩ (F TA y.t.length tc)).setCell ⟨g,1,none⟩ (F OA y.o.length oc)).setCell ⟨g,2,none⟩ (O U y.got)).setCell ⟨g,3,none⟩ (O U y.sold)).setCell ⟨g,4,none⟩ (O U y.missed)).setCell ⟨g,5,none⟩ (sQ l.D)).setCell ⟨g,6,none⟩ (sQ l.P)).setCell ⟨g,7,none⟩ (O U l.n)) B g y l:=by
 have gr:w.grownBy ((((((((w.setCell ⟨g,0,none⟩ (F TA y.t.length tc)).setCell ⟨g,1,none⟩ (F OA y.o.length oc)).setCell ⟨g,2,none⟩ (O U y.got)).setCell ⟨g,3,none⟩ (O U y.sold)).setCell ⟨g,4,none⟩ (O U y.missed)).setCell ⟨g,5,none⟩ (sQ l.D)).setCell ⟨g,6,none⟩ (sQ l.P)).setCell ⟨g,7,none⟩ (O U l.n)) (some g):=ac (g:=g) (i:=7) (u:=O U l.n) (ac (g:=g) (i:=6) (u:=sQ l.P) (ac (g:=g) (i:=5) (u:=sQ l.D) (ac (g:=g) (i:=4) (u:=O U y.missed) (ac (g:=g) (i:=3) (u:=O U y.sold) (ac (g:=g) (i:=2) (u:=O U y.got) (ac (g:=g) (i:=1) (u:=F OA y.o.length oc) (ac (g:=g) (i:=0) (u:=F TA y.t.length tc) (World.grownBy.refl w (some g)))))))))
 exact ⟨TA,tc,OA,oc,nz (hL) (F TA y.t.length tc) (F OA y.o.length oc) (O U y.got) (O U y.sold) (O U y.missed) (sQ l.D) (sQ l.P) (O U l.n),aj h1 hL eN gr,aj h2 hL eQ gr⟩
set_option maxRecDepth 100000 in
set_option maxHeartbeats 4000000 in
theorem gl (x:aM) (l:Lg) (w:World) (h:aQ w w.heap.size x) (tl:x.t.length≤1048576) (ol:x.o.length≤1048576) :
  Calls Tryz.prog 44 #[aL x l] w (rT w x.c l):=by
 have L1:=(ai.new w 42 #[F x.TA x.t.length x.tc,F x.OA x.o.length x.oc,O U x.got,O U x.sold,O U x.missed,sQ l.D,sQ l.P,O U l.n]).alloc (.cells #[F none 0 0,F none 0 0,O U 0,O U 0,O U 0,sQ ⟨#[]⟩,sQ ⟨#[]⟩,O U 0] 42)
 have L2:=ai.new1 w (.cells #[F x.TA x.t.length x.tc,F x.OA x.o.length x.oc,O U x.got,O U x.sold,O U x.missed,sQ l.D,sQ l.P,O U l.n] 42) 42 #[F none 0 0,F none 0 0,O U 0,O U 0,O U 0,sQ ⟨#[]⟩,sQ ⟨#[]⟩,O U 0]
 have b1:=(Below.refl w.heap.size w).alloc (Nat.le_refl _) (.cells #[F x.TA x.t.length x.tc,F x.OA x.o.length x.oc,O U x.got,O U x.sold,O U x.missed,sQ l.D,sQ l.P,O U l.n] 42)
 have b2:=b1.alloc b1.size (.cells #[F none 0 0,F none 0 0,O U 0,O U 0,O U 0,sQ ⟨#[]⟩,sQ ⟨#[]⟩,O U 0] 42)
 have hW:=h.up b2 (Nat.le_refl _)
 have hge:w.heap.size≤w.heap.size+1:=by omega
 clear b1 h
 go_enter Tryz.func44,Tryz.ntmps44
 go_wp2_with fail
 generalize ((w.alloc (.cells #[F x.TA x.t.length x.tc,F x.OA x.o.length x.oc,O U x.got,O U x.sold,O U x.missed,sQ l.D,sQ l.P,O U l.n] 42)).alloc (.cells #[F none 0 0,F none 0 0,O U 0,O U 0,O U 0,sQ ⟨#[]⟩,sQ ⟨#[]⟩,O U 0] 42))=W at L1 L2 b2 hW ⊢
 refine an (Sw 6 (fun W9=>Below W.heap.size W W9) (fun W9=>Below w.heap.size w W9∧db W9 w.heap.size (w.heap.size+1) x.c l)) (fun i w1 w2=>i ∉ [6]→Below w1.heap.size w1 w2) (by kernel_rfl) (by kernel_rfl) (by kernel_rfl) (Sw.start (Below.refl _ _).drew) ?_
 simp only [ax,Act.put,List.setIfInBounds_toArray,List.set_cons_zero,List.set_cons_succ,Nat.zero_add,Nat.reduceAdd]
 apply aa
 case h1 =>
  intro vs L9 w9 hG9 hC9 hB K9 hK9
  replace hC9:=sb hC9 hG9
  simp only [Act.put,sA,s0,s1] at hK9
  go_simp
  exact hK9 _ _ rfl (sy hG9 hC9) bR
 apply aa
 case h1 =>
  intro vs L9 w9 hG9 hC9 hB K9 hK9
  replace hC9:=sb hC9 hG9
  have d0:=fe hB 0
  simp only [d0] at hK9 ⊢
  have q0:w9.cell? ⟨w.heap.size,0,none⟩=some (F x.TA x.t.length x.tc):=(L1.below hC9 L1.lt).cell 0
  have q1:w9.cell? ⟨w.heap.size,1,none⟩=some (F x.OA x.o.length x.oc):=(L1.below hC9 L1.lt).cell 1
  have q2:w9.cell? ⟨w.heap.size,2,none⟩=some (O U x.got):=(L1.below hC9 L1.lt).cell 2
  have q3:w9.cell? ⟨w.heap.size,3,none⟩=some (O U x.sold):=(L1.below hC9 L1.lt).cell 3
  have q4:w9.cell? ⟨w.heap.size,4,none⟩=some (O U x.missed):=(L1.below hC9 L1.lt).cell 4
  simp only [Act.put,sA,s0,s1] at hK9
  go_simp
  exact hK9 _ _ rfl (sy hG9 hC9) bR
 refine ak [6] (fun v w9=>fm w9 w.heap.size x.c v) ?_ (fun vs L9 w9 hG9 hC9 hB K9 hK9=>?_) ?_
 next =>
  intro i9 hi9 hb9 ha9 v w1 w2 hv hT9
  have hb:=hT9 (fun hm=>by
   simp only [List.mem_cons,List.not_mem_nil,or_false] at hm hb9
   subst hm
   ·exact hb9 (by simp))
  exact hv.below hb
 next =>
  replace hC9:=sb hC9 hG9
  have d1:=fe hB 1
  simp only [d1] at hK9 ⊢
  simp only [Act.put,sA,s0,s1] at hK9
  go_simp
  refine (pN x w9 (hW.then hC9) tl ol).mono ?_
  rintro en w8 ⟨TA,tc,OA,oc,rfl,h1,h2,hb8⟩
  exact hK9 _ _ _ rfl ⟨TA,tc,OA,oc,rfl,af h1 (Nat.le_trans (b2).size hC9.size),af h2 (Nat.le_trans (b2).size hC9.size)⟩ (Sw.stay hG9 (by kernel_rfl) (by decide) (hC9.trans (hb8.mono hC9.size))) (fun _=>hb8)
 apply aa
 case h1 =>
  intro vs L9 w9 hG9 hC9 hB K9 hK9
  replace hC9:=sb hC9 hG9
  simp only [Act.put,sA,s0,s1] at hK9
  go_simp
  exact hK9 _ _ rfl (sy hG9 hC9) bR
 apply aa
 case h1 =>
  intro vs L9 w9 hG9 hC9 hB K9 hK9
  replace hC9:=sb hC9 hG9
  have d3:=fe hB 3
  simp only [d3] at hK9 ⊢
  have q0:w9.cell? ⟨w.heap.size,5,none⟩=some (sQ l.D):=(L1.below hC9 L1.lt).cell 5
  have q1:w9.cell? ⟨w.heap.size,6,none⟩=some (sQ l.P):=(L1.below hC9 L1.lt).cell 6
  have q2:w9.cell? ⟨w.heap.size,7,none⟩=some (O U l.n):=(L1.below hC9 L1.lt).cell 7
  simp only [Act.put,sA,s0,s1] at hK9
  go_simp
  exact hK9 _ _ rfl (sy hG9 hC9) bR
 refine ak [6] (fun v w9=>kB w9 w.heap.size x.c l v) ?_ (fun vs L9 w9 hG9 hC9 hB K9 hK9=>?_) ?_
 next =>
  intro i9 hi9 hb9 ha9 v w1 w2 hv hT9
  have hb:=hT9 (fun hm=>by
   simp only [List.mem_cons,List.not_mem_nil,or_false] at hm hb9
   subst hm
   ·exact hb9 (by simp))
  exact hv.below hb
 next =>
  replace hC9:=sb hC9 hG9
  have d4:=fe hB 4
  simp only [d4] at hK9 ⊢
  simp only [Act.put,sA,s0,s1] at hK9
  obtain ⟨TA,tc,OA,oc,e0,h1,h2⟩:=fs hB 2
  simp only [e0] at hK9 ⊢
  go_simp
  exact hK9 _ _ _ rfl ⟨TA,tc,OA,oc,rfl,h1,h2⟩ (sy hG9 hC9) bR
 refine aa (undef) (fun vs L9 w9 hG9 hC9 hB K9 hK9=>?_) ?_
 next =>
  replace hC9:=hC9.here hG9
  obtain ⟨TA,tc,OA,oc,e0,h1,h2⟩:=fs hB 5
  simp only [e0] at hK9 ⊢
  have Lr:=L2.below hC9 L2.lt
  obtain ⟨z0,z1,z2,z3,z4,z5,z6,z7⟩:=cells8 Lr
  obtain ⟨f0,f1,f2,f3,f4,f5,f6,f7⟩:=frz8 Lr
  have hN8:=Lib.hid (db.put (y:=x.c) (l:=l) Lr h1 h2)
  have hD8:=Lib.hid (dN (g:=(w.heap.size+1)) ((b2).trans (hC9.mono (b2).size)) hge (F TA x.t.length tc) (F OA x.o.length oc) (O U x.got) (O U x.sold) (O U x.missed) (sQ l.D) (sQ l.P) (O U l.n))
  clear Lr h1 h2
  go_simp
  exact hK9 _ _ rfl (Sw.turn ⟨hD8.out,hN8.out⟩) (fun hq=>(hq (by decide)).elim)
 refine az fun vs L9 w9 hL9 hC9 hB=>?_
 replace hC9:=hC9.done hL9 (by decide)
 obtain ⟨hD,TA,tc,OA,oc,hN,hT,hO⟩:=hC9
 obtain ⟨k0,k1,k2,k3,k4,k5,k6,k7⟩:=cells8 hN
 clear hN hB
 go_wp2
 refine bodyPost_ret (v:=.agg #[F TA x.c.t.length tc,F OA x.c.o.length oc,O U x.c.got,O U x.c.sold,O U x.c.missed,sQ l.D,sQ l.P,O U l.n]) (by simp [results,Tryz.results44,go_sem, *]) rfl ⟨_,rfl,⟨TA,tc,OA,oc,rfl,hT,hO⟩,hD⟩
set_option maxRecDepth 100000 in
set_option maxHeartbeats 4000000 in
theorem eH (x:aM) (l:Lg) (g:Nat) (w:World) (hL:ai w g 42 [F x.TA x.t.length x.tc,F x.OA x.o.length x.oc,O U x.got,O U x.sold,O U x.missed,sQ l.D,sQ l.P,O U l.n]) (h:aQ w w.heap.size x) (tl:x.t.length≤1048576) (ol:x.o.length≤1048576) :
  Calls Tryz.prog 50 #[.pointer (some ⟨g,0,none⟩)] w (rT w x.c l):=by
 have L1:=hL.alloc (.cells #[F none 0 0,F none 0 0,O U 0,O U 0,O U 0,sQ ⟨#[]⟩,sQ ⟨#[]⟩,O U 0] 42)
 have L2:=ai.new w 42 #[F none 0 0,F none 0 0,O U 0,O U 0,O U 0,sQ ⟨#[]⟩,sQ ⟨#[]⟩,O U 0]
 have b2:=(Below.refl w.heap.size w).alloc (Nat.le_refl _) (.cells #[F none 0 0,F none 0 0,O U 0,O U 0,O U 0,sQ ⟨#[]⟩,sQ ⟨#[]⟩,O U 0] 42)
 have hW:=h.up b2 (Nat.le_refl _)
 have hge:w.heap.size≤w.heap.size:=Nat.le_refl _
 clear h hL
 go_enter Tryz.func50,Tryz.ntmps50
 go_wp2_with fail
 generalize w.alloc (.cells #[F none 0 0,F none 0 0,O U 0,O U 0,O U 0,sQ ⟨#[]⟩,sQ ⟨#[]⟩,O U 0] 42)=W at L1 L2 b2 hW ⊢
 refine an (Sw 9 (fun W9=>Below W.heap.size W W9) (fun W9=>Below w.heap.size w W9∧db W9 w.heap.size w.heap.size x.c l)) (fun i w1 w2=>i ∉ [9]→Below w1.heap.size w1 w2) (by kernel_rfl) (by kernel_rfl) (by kernel_rfl) (Sw.start (Below.refl _ _).drew) ?_
 simp only [ax,Act.put,List.setIfInBounds_toArray,List.set_cons_zero,List.set_cons_succ,Nat.zero_add,Nat.reduceAdd]
 apply aa
 case h1 =>
  intro vs L9 w9 hG9 hC9 hB K9 hK9
  replace hC9:=sb hC9 hG9
  simp only [Act.put,sA,s0,s1] at hK9
  go_simp
  exact hK9 _ _ rfl (sy hG9 hC9) bR
 apply aa
 case h1 =>
  intro vs L9 w9 hG9 hC9 hB K9 hK9
  replace hC9:=sb hC9 hG9
  have d0:=fe hB 0
  simp only [d0] at hK9 ⊢
  simp only [Act.put,sA,s0,s1] at hK9
  go_simp
  exact hK9 _ _ rfl (sy hG9 hC9) bR
 apply aa
 case h1 =>
  intro vs L9 w9 hG9 hC9 hB K9 hK9
  replace hC9:=sb hC9 hG9
  have d1:=fe hB 1
  simp only [d1] at hK9 ⊢
  simp only [Act.put,sA,s0,s1] at hK9
  go_simp
  exact hK9 _ _ rfl (sy hG9 hC9) bR
 refine ak [9] (fun v w9=>fm w9 w.heap.size x.c v) ?_ (fun vs L9 w9 hG9 hC9 hB K9 hK9=>?_) ?_
 next =>
  intro i9 hi9 hb9 ha9 v w1 w2 hv hT9
  have hb:=hT9 (fun hm=>by
   simp only [List.mem_cons,List.not_mem_nil,or_false] at hm hb9
   subst hm
   ·exact hb9 (by simp))
  exact hv.below hb
 next =>
  replace hC9:=sb hC9 hG9
  have d2:=fe hB 2
  simp only [d2] at hK9 ⊢
  simp only [Act.put,sA,s0,s1] at hK9
  go_simp
  refine (mb x g w9 (ju (L1.below hC9 L1.lt) (hW.then hC9)) tl ol).mono ?_
  rintro en w8 ⟨TA,tc,OA,oc,rfl,h1,h2,hb8⟩
  exact hK9 _ _ _ rfl ⟨TA,tc,OA,oc,rfl,af h1 (Nat.le_trans (b2).size hC9.size),af h2 (Nat.le_trans (b2).size hC9.size)⟩ (Sw.stay hG9 (by kernel_rfl) (by decide) (hC9.trans (hb8.mono hC9.size))) (fun _=>hb8)
 apply aa
 case h1 =>
  intro vs L9 w9 hG9 hC9 hB K9 hK9
  replace hC9:=sb hC9 hG9
  simp only [Act.put,sA,s0,s1] at hK9
  go_simp
  exact hK9 _ _ rfl (sy hG9 hC9) bR
 apply aa
 case h1 =>
  intro vs L9 w9 hG9 hC9 hB K9 hK9
  replace hC9:=sb hC9 hG9
  have d4:=fe hB 4
  simp only [d4] at hK9 ⊢
  simp only [Act.put,sA,s0,s1] at hK9
  go_simp
  exact hK9 _ _ rfl (sy hG9 hC9) bR
 apply aa
 case h1 =>
  intro vs L9 w9 hG9 hC9 hB K9 hK9
  replace hC9:=sb hC9 hG9
  have d5:=fe hB 5
  simp only [d5] at hK9 ⊢
  simp only [Act.put,sA,s0,s1] at hK9
  go_simp
  exact hK9 _ _ rfl (sy hG9 hC9) bR
 apply aa
 case h1 =>
  intro vs L9 w9 hG9 hC9 hB K9 hK9
  replace hC9:=sb hC9 hG9
  have d6:=fe hB 6
  simp only [d6] at hK9 ⊢
  have q0:w9.cell? ⟨g,5,none⟩=some (sQ l.D):=(L1.below hC9 L1.lt).cell 5
  have q1:w9.cell? ⟨g,6,none⟩=some (sQ l.P):=(L1.below hC9 L1.lt).cell 6
  have q2:w9.cell? ⟨g,7,none⟩=some (O U l.n):=(L1.below hC9 L1.lt).cell 7
  simp only [Act.put,sA,s0,s1] at hK9
  go_simp
  exact hK9 _ _ rfl (sy hG9 hC9) bR
 refine ak [9] (fun v w9=>kB w9 w.heap.size x.c l v) ?_ (fun vs L9 w9 hG9 hC9 hB K9 hK9=>?_) ?_
 next =>
  intro i9 hi9 hb9 ha9 v w1 w2 hv hT9
  have hb:=hT9 (fun hm=>by
   simp only [List.mem_cons,List.not_mem_nil,or_false] at hm hb9
   subst hm
   ·exact hb9 (by simp))
  exact hv.below hb
 next =>
  replace hC9:=sb hC9 hG9
  have d7:=fe hB 7
  simp only [d7] at hK9 ⊢
  simp only [Act.put,sA,s0,s1] at hK9
  obtain ⟨TA,tc,OA,oc,e0,h1,h2⟩:=fs hB 3
  simp only [e0] at hK9 ⊢
  go_simp
  exact hK9 _ _ _ rfl ⟨TA,tc,OA,oc,rfl,h1,h2⟩ (sy hG9 hC9) bR
 refine aa (undef) (fun vs L9 w9 hG9 hC9 hB K9 hK9=>?_) ?_
 next =>
  replace hC9:=hC9.here hG9
  obtain ⟨TA,tc,OA,oc,e0,h1,h2⟩:=fs hB 8
  simp only [e0] at hK9 ⊢
  have Lr:=L2.below hC9 L2.lt
  obtain ⟨z0,z1,z2,z3,z4,z5,z6,z7⟩:=cells8 Lr
  obtain ⟨f0,f1,f2,f3,f4,f5,f6,f7⟩:=frz8 Lr
  have hN8:=Lib.hid (db.put (y:=x.c) (l:=l) Lr h1 h2)
  have hD8:=Lib.hid (dN (g:=w.heap.size) ((b2).trans (hC9.mono (b2).size)) hge (F TA x.t.length tc) (F OA x.o.length oc) (O U x.got) (O U x.sold) (O U x.missed) (sQ l.D) (sQ l.P) (O U l.n))
  clear Lr h1 h2
  go_simp
  exact hK9 _ _ rfl (Sw.turn ⟨hD8.out,hN8.out⟩) (fun hq=>(hq (by decide)).elim)
 refine az fun vs L9 w9 hL9 hC9 hB=>?_
 replace hC9:=hC9.done hL9 (by decide)
 obtain ⟨hD,TA,tc,OA,oc,hN,hT,hO⟩:=hC9
 obtain ⟨k0,k1,k2,k3,k4,k5,k6,k7⟩:=cells8 hN
 clear hN hB
 go_wp2
 refine bodyPost_ret (v:=.agg #[F TA x.c.t.length tc,F OA x.c.o.length oc,O U x.c.got,O U x.c.sold,O U x.c.missed,sQ l.D,sQ l.P,O U l.n]) (by simp [results,Tryz.results50,go_sem, *]) rfl ⟨_,rfl,⟨TA,tc,OA,oc,rfl,hT,hO⟩,hD⟩
def eE (w:World) (B:Nat) (x:aM) (l:Lg) (y:Oc) (v:Value):Prop :=
 (v=aL x l∧y=x.c) ∨ ∃ TA tc OA oc,v=aL (y.at TA tc OA oc) l∧w.ownsRow B 104 2 (F TA y.t.length tc) y.t.length (y.t.flatMap aq.enc)∧w.ownsRow B 147 3 (F OA y.o.length oc) y.o.length (y.o.flatMap ae.enc)
theorem eE.below {w w' : World} {B:Nat} {x:aM} {l:Lg} {y:Oc} {v:Value} (h:eE w B x l y v) (hb:Below w.heap.size w w'):eE w' B x l y v:=by
 rcases h with h | ⟨TA,tc,OA,oc,e,h1,h2⟩
 ·exact .inl h
 ·exact .inr ⟨TA,tc,OA,oc,e,ab h1 hb,ab h2 hb⟩
theorem eE.lower {w:World} {B B' : Nat} {x:aM} {l:Lg} {y:Oc} {v:Value} (h:eE w B x l y v) (hB:B'≤B):eE w B' x l y v:=by
 rcases h with h | ⟨TA,tc,OA,oc,e,h1,h2⟩
 ·exact .inl h
 ·exact .inr ⟨TA,tc,OA,oc,e,af h1 hB,af h2 hB⟩
theorem eE.kept {w w' : World} {B g:Nat} {x:aM} {l:Lg} {y:Oc} {v:Value} {cs:List Value} (h:eE w B x l y v) (hL:ai w g 42 cs) (hg:w.grownBy w' (some g)):eE w' B x l y v:=by
 rcases h with h | ⟨TA,tc,OA,oc,e,h1,h2⟩
 ·exact .inl h
 ·exact .inr ⟨TA,tc,OA,oc,e,aj h1 hL eN hg,aj h2 hL eQ hg⟩
theorem eE.as {w:World} {B:Nat} {x:aM} {l:Lg} {y:Oc} {v:Value} (h:eE w B x l y v) (hx:aQ w w.heap.size x):∃ X:aM,v=aL X l∧X.c=y∧aQ w w.heap.size X:=by
 rcases h with ⟨rfl,rfl⟩ | ⟨TA,tc,OA,oc,rfl,h1,h2⟩
 ·exact ⟨x,rfl,rfl,hx⟩
 ·exact ⟨y.at TA tc OA oc,rfl,rfl,aB h1,aB h2⟩
def eF (x:aM) (R:Option (Oc × ByteArray)):Oc:=(R.map Prod.fst).getD x.c
def ix (R:Option (Oc × ByteArray)):ByteArray:=(R.map Prod.snd).getD cd
def bf (w:World) (x:aM) (l:Lg) (R:Option (Oc × ByteArray)) (e:Ending) (w' : World):Prop :=
 ∃ v,e=.returned (.tuple #[v,sQ (ix R)])∧eE w' w.heap.size x l (eF x R) v∧Below w.heap.size w w'
theorem bf.mk {w w' : World} {x:aM} {l:Lg} {R:Option (Oc × ByteArray)} {v:Value} {T:ByteArray} (hT:ix R=T) (h1:eE w' w.heap.size x l (eF x R) v) (h2:Below w.heap.size w w'):bf w x l R (.returned (.tuple #[v,sQ T])) w':=by
 subst hT; exact ⟨v,rfl,h1,h2⟩
theorem gZ (x:aM) (s:dH) (w:World) (h:aQ w w.heap.size x) (hcap:x.t.length≤x.tc):Calls Tryz.prog 76 #[x.val,s.val] w (aC w (fL x.c s)):=jR x s w h hcap
set_option maxRecDepth 100000 in
set_option maxHeartbeats 4000000 in
theorem qX (x:aM) (l:Lg) (kd st pe va:Int) (w:World) (h:aQ w w.heap.size x) (hcap:x.t.length≤x.tc) (hN:fL x.c ⟨kd,st,pe,va⟩=none) :
  Calls Tryz.prog 89 #[aL x l,.agg #[O U kd,O U st,O U pe,O U va]] w (bf w x l none):=by
 have L1:=((ai.new w 42 #[F x.TA x.t.length x.tc,F x.OA x.o.length x.oc,O U x.got,O U x.sold,O U x.missed,sQ l.D,sQ l.P,O U l.n]).alloc (.cells #[O U kd,O U st,O U pe,O U va] 112)).alloc (.cells #[F none 0 0,F none 0 0,O U 0,O U 0,O U 0,sQ ⟨#[]⟩,sQ ⟨#[]⟩,O U 0] 42)
 have L2:=(ai.new1 w (.cells #[F x.TA x.t.length x.tc,F x.OA x.o.length x.oc,O U x.got,O U x.sold,O U x.missed,sQ l.D,sQ l.P,O U l.n] 42) 112 #[O U kd,O U st,O U pe,O U va]).alloc (.cells #[F none 0 0,F none 0 0,O U 0,O U 0,O U 0,sQ ⟨#[]⟩,sQ ⟨#[]⟩,O U 0] 42)
 have L3:=ai.new2 w (.cells #[F x.TA x.t.length x.tc,F x.OA x.o.length x.oc,O U x.got,O U x.sold,O U x.missed,sQ l.D,sQ l.P,O U l.n] 42) (.cells #[O U kd,O U st,O U pe,O U va] 112) 42 #[F none 0 0,F none 0 0,O U 0,O U 0,O U 0,sQ ⟨#[]⟩,sQ ⟨#[]⟩,O U 0]
 have b1:=(Below.refl w.heap.size w).alloc (Nat.le_refl _) (.cells #[F x.TA x.t.length x.tc,F x.OA x.o.length x.oc,O U x.got,O U x.sold,O U x.missed,sQ l.D,sQ l.P,O U l.n] 42)
 have b2:=b1.alloc b1.size (.cells #[O U kd,O U st,O U pe,O U va] 112)
 have b3:=b2.alloc b2.size (.cells #[F none 0 0,F none 0 0,O U 0,O U 0,O U 0,sQ ⟨#[]⟩,sQ ⟨#[]⟩,O U 0] 42)
 have hW:=h.up b3 (Nat.le_refl _)
 have hge:w.heap.size≤w.heap.size+1+1:=by omega
 clear b1 b2 h
 have cS:=fun W hR=>gZ x ⟨kd,st,pe,va⟩ W hR hcap
 rw [hN] at cS
 clear hN
 go_enter Tryz.func89,Tryz.ntmps89
 go_wp2_with fail
 generalize (((w.alloc (.cells #[F x.TA x.t.length x.tc,F x.OA x.o.length x.oc,O U x.got,O U x.sold,O U x.missed,sQ l.D,sQ l.P,O U l.n] 42)).alloc (.cells #[O U kd,O U st,O U pe,O U va] 112)).alloc (.cells #[F none 0 0,F none 0 0,O U 0,O U 0,O U 0,sQ ⟨#[]⟩,sQ ⟨#[]⟩,O U 0] 42))=W at L1 L2 L3 b3 hW ⊢
 refine (cS W hW).mono ?_
 rintro e W1 ⟨TA,tc,OA,oc,rfl,hT,hO,hb⟩
 simp only [cj,Option.getD_none,Option.isSome_none,Oc.at,aM.val,Oc.zero,List.length_nil]
 have hal:=(Below.refl W1.heap.size W1).alloc (Nat.le_refl _) (.cells #[F TA 0 tc,F OA 0 oc,O U 0,O U 0,O U 0] 40)
 have hb2:=ar hb hal
 have K1:=L1.below hb2 L1.lt
 have K3:=L3.below hb2 L3.lt
 have b4:=ar b3 hb2
 clear hal hb hb2 L1 L2 L3 b3 hT hO hW
 obtain ⟨c0,c1,c2,c3,c4,c5,c6,c7⟩:=cells8 K1
 obtain ⟨z0,z1,z2,z3,z4,z5,z6,z7⟩:=cells8 K3
 obtain ⟨f0,f1,f2,f3,f4,f5,f6,f7⟩:=frz8 K3
 have bz:=Lib.hid (dN (g:=w.heap.size+1+1) (b4) hge (F x.TA x.t.length x.tc) (F x.OA x.o.length x.oc) (O U x.got) (O U x.sold) (O U x.missed) (sQ l.D) (sQ l.P) (O U l.n))
 clear K1 K3 b4
 go_wp2
 refine bodyPost_ret (v:=.tuple #[aL x l,sQ ⟨#[63]⟩]) (by simp [results,Tryz.results89,go_sem, *]) rfl ?_
 exact ⟨_,rfl,.inl ⟨rfl,rfl⟩,bz.out⟩
set_option maxRecDepth 100000 in
set_option maxHeartbeats 4000000 in
theorem rU (x:aM) (l:Lg) (st pe va:Int) (w:World) (h:aQ w w.heap.size x) (hcap:x.t.length≤x.tc) (z:Oc) (hN:fL x.c ⟨1,st,pe,va⟩=some z) :
  Calls Tryz.prog 89 #[aL x l,.agg #[O U 1,O U st,O U pe,O U va]] w (bf w x l (some (z,bu (bW z.t)))):=by
 have L1:=((ai.new w 42 #[F x.TA x.t.length x.tc,F x.OA x.o.length x.oc,O U x.got,O U x.sold,O U x.missed,sQ l.D,sQ l.P,O U l.n]).alloc (.cells #[O U 1,O U st,O U pe,O U va] 112)).alloc (.cells #[F none 0 0,F none 0 0,O U 0,O U 0,O U 0,sQ ⟨#[]⟩,sQ ⟨#[]⟩,O U 0] 42)
 have L2:=(ai.new1 w (.cells #[F x.TA x.t.length x.tc,F x.OA x.o.length x.oc,O U x.got,O U x.sold,O U x.missed,sQ l.D,sQ l.P,O U l.n] 42) 112 #[O U 1,O U st,O U pe,O U va]).alloc (.cells #[F none 0 0,F none 0 0,O U 0,O U 0,O U 0,sQ ⟨#[]⟩,sQ ⟨#[]⟩,O U 0] 42)
 have L3:=ai.new2 w (.cells #[F x.TA x.t.length x.tc,F x.OA x.o.length x.oc,O U x.got,O U x.sold,O U x.missed,sQ l.D,sQ l.P,O U l.n] 42) (.cells #[O U 1,O U st,O U pe,O U va] 112) 42 #[F none 0 0,F none 0 0,O U 0,O U 0,O U 0,sQ ⟨#[]⟩,sQ ⟨#[]⟩,O U 0]
 have b1:=(Below.refl w.heap.size w).alloc (Nat.le_refl _) (.cells #[F x.TA x.t.length x.tc,F x.OA x.o.length x.oc,O U x.got,O U x.sold,O U x.missed,sQ l.D,sQ l.P,O U l.n] 42)
 have b2:=b1.alloc b1.size (.cells #[O U 1,O U st,O U pe,O U va] 112)
 have b3:=b2.alloc b2.size (.cells #[F none 0 0,F none 0 0,O U 0,O U 0,O U 0,sQ ⟨#[]⟩,sQ ⟨#[]⟩,O U 0] 42)
 have hW:=h.up b3 (Nat.le_refl _)
 have hge:w.heap.size≤w.heap.size+1+1:=by omega
 clear b1 b2 h
 have cS:=fun W hR=>gZ x ⟨1,st,pe,va⟩ W hR hcap
 have hz:=eG hN
 rw [hN] at cS
 clear hN
 have GZ:bn (z.at none 0 none 0):=bm.1 hz.1
 have HT:Hid (ix (some (z,bu (bW z.t)))=bu (bW z.t)):=rfl
 go_enter Tryz.func89,Tryz.ntmps89
 go_wp2_with fail
 generalize (((w.alloc (.cells #[F x.TA x.t.length x.tc,F x.OA x.o.length x.oc,O U x.got,O U x.sold,O U x.missed,sQ l.D,sQ l.P,O U l.n] 42)).alloc (.cells #[O U 1,O U st,O U pe,O U va] 112)).alloc (.cells #[F none 0 0,F none 0 0,O U 0,O U 0,O U 0,sQ ⟨#[]⟩,sQ ⟨#[]⟩,O U 0] 42))=W at L1 L2 L3 b3 hW ⊢
 refine (cS W hW).mono ?_
 rintro e W1 ⟨TA,tc,OA,oc,rfl,hT,hO,hb⟩
 simp only [cj,Option.getD_some,Option.isSome_some,Oc.at,aM.val] at hT hO ⊢
 go_upto_region 4 with fail
 have hal:=(Below.refl W1.heap.size W1).alloc (Nat.le_refl _) (.cells #[F TA z.t.length tc,F OA z.o.length oc,O U z.got,O U z.sold,O U z.missed] 40)
 have hb2:=ar hb hal
 have J1:=L1.below hb2 L1.lt
 have J2:=L2.below hb2 L2.lt
 have J3:=L3.below hb2 L3.lt
 have J6:=ai.new W1 40 #[F TA z.t.length tc,F OA z.o.length oc,O U z.got,O U z.sold,O U z.missed]
 have b4:=ar b3 hb2
 have hT1:=af (ab hT hal) b3.size
 have hO1:=af (ab hO hal) b3.size
 have g26:w.heap.size+1+1 < W1.heap.size:=Nat.lt_of_lt_of_le L3.lt hb.size
 clear hal hb2 hb hT hO L1 L2 L3 b3
 generalize W1.alloc (.cells #[F TA z.t.length tc,F OA z.o.length oc,O U z.got,O U z.sold,O U z.missed] 40)=W2 at J1 J2 J3 J6 b4 hT1 hO1 ⊢
 generalize W1.heap.size=g6 at J6 g26 ⊢
 obtain ⟨c0,c1,c2,c3,c4,c5,c6,c7⟩:=cells8 J1
 go_upto_region 5 with fail
 clear c0 c1 c2 c3 c4 c5 c6 c7
 have hal:=(Below.refl W2.heap.size W2).alloc (Nat.le_refl _) (.cells #[F x.TA x.t.length x.tc,F x.OA x.o.length x.oc,O U x.got,O U x.sold,O U x.missed,sQ l.D,sQ l.P,O U l.n] 42)
 have K1:=J1.below hal J1.lt
 have K2:=J2.below hal J2.lt
 have K3:=J3.below hal J3.lt
 have K6:=J6.below hal J6.lt
 have K8:=ai.new W2 42 #[F x.TA x.t.length x.tc,F x.OA x.o.length x.oc,O U x.got,O U x.sold,O U x.missed,sQ l.D,sQ l.P,O U l.n]
 have b5:=b4.trans (hal.mono b4.size)
 have hT2:=ab hT1 hal
 have hO2:=ab hO1 hal
 have g68:g6 < W2.heap.size:=J6.lt
 clear hal J1 J2 J3 J6 b4 hT1 hO1
 generalize W2.alloc (.cells #[F x.TA x.t.length x.tc,F x.OA x.o.length x.oc,O U x.got,O U x.sold,O U x.missed,sQ l.D,sQ l.P,O U l.n] 42)=W3 at K1 K2 K3 K6 K8 b5 hT2 hO2 ⊢
 generalize W2.heap.size=g8 at K8 g68 ⊢
 have hg8:w.heap.size≤g8:=by omega
 obtain ⟨p0,p1,p2,p3,p4⟩:=cells5 K6
 obtain ⟨q0,q1,q2,q3,q4,q5,q6,q7⟩:=cells8 K8
 obtain ⟨f0,f1,f2,f3,f4,f5,f6,f7⟩:=frz8 K8
 go_upto_region 6 with fail
 obtain ⟨W4,HW4,M8,b6,gr,OT⟩:=gL K8 b5 hg8 (F TA z.t.length tc) (F OA z.o.length oc) (O U z.got) (O U z.sold) (O U z.missed)
 have M1:=OT _ _ _ (by omega) K1
 have M2:=OT _ _ _ (by omega) K2
 have M3:=OT _ _ _ (by omega) K3
 have M6:=OT _ _ _ (by omega) K6
 have hT:=aj hT2 K8 eN gr
 have hO:=aj hO2 K8 eQ gr
 clear p0 p1 p2 p3 p4 q0 q1 q2 q3 q4 q5 q6 q7 f0 f1 f2 f3 f4 K1 K2 K3 K6 K8 hT2 hO2 b5 gr OT
 rw [HW4.out]
 clear HW4
 have hR4:aQ W4 W4.heap.size (z.at TA tc OA oc):=⟨aB hT,aB hO⟩
 obtain ⟨s0,s1,s2,s3⟩:=cells4 M2
 obtain ⟨p0,p1,p2,p3,p4⟩:=cells5 M6
 have hs:=gM (z.at TA tc OA oc) W4 hR4
 rw [show am (z.at TA tc OA oc)=true from hz.1] at hs
 simp only [rD,if_true] at hs
 have hn:=fun W=>fw (bW z.t) true W (fun _=>⟨GZ.inB.1,by have:=GZ.inB.2; have e:(z.at none 0 none 0).t=z.t:=rfl; rw [e] at this; omega⟩)
 simp only [if_true] at hn
 go_wp2_with fail
 refine hs.mono ?_
 rintro e W5 ⟨rfl,hb5⟩
 have N3:=M3.below hb5 M3.lt
 have N8:=M8.below hb5 M8.lt
 have b7:=b6.trans (hb5.mono b6.size)
 have hT5:=ab hT hb5
 have hO5:=ab hO hb5
 clear s0 s1 s2 s3 p0 p1 p2 p3 p4 hs M1 M2 M3 M6 M8 b6 hT hO hR4 hb5
 go_wp2_with fail
 refine an (Sw 4 (fun W9=>Below W5.heap.size W5 W9) (fun W9=>Below w.heap.size w W9∧db W9 w.heap.size (w.heap.size+1+1) z l)) (fun i w1 w2=>i ∉ [4]→Below w1.heap.size w1 w2) (by kernel_rfl) (by kernel_rfl) (by kernel_rfl) (Sw.start (Below.refl _ _).drew) ?_
 simp only [ax,Act.put,List.setIfInBounds_toArray,List.set_cons_zero,List.set_cons_succ,Nat.zero_add,Nat.reduceAdd]
 apply aa
 case h1 =>
  intro vs L9 w9 hG9 hC9 hB K9 hK9
  replace hC9:=sb hC9 hG9
  have q0:w9.cell? ⟨g8,0,none⟩=some (F TA z.t.length tc):=(N8.below hC9 N8.lt).cell 0
  have q1:w9.cell? ⟨g8,1,none⟩=some (F OA z.o.length oc):=(N8.below hC9 N8.lt).cell 1
  have q2:w9.cell? ⟨g8,2,none⟩=some (O U z.got):=(N8.below hC9 N8.lt).cell 2
  have q3:w9.cell? ⟨g8,3,none⟩=some (O U z.sold):=(N8.below hC9 N8.lt).cell 3
  have q4:w9.cell? ⟨g8,4,none⟩=some (O U z.missed):=(N8.below hC9 N8.lt).cell 4
  have q5:w9.cell? ⟨g8,5,none⟩=some (sQ l.D):=(N8.below hC9 N8.lt).cell 5
  have q6:w9.cell? ⟨g8,6,none⟩=some (sQ l.P):=(N8.below hC9 N8.lt).cell 6
  have q7:w9.cell? ⟨g8,7,none⟩=some (O U l.n):=(N8.below hC9 N8.lt).cell 7
  simp only [Act.put,sA,s0,s1] at hK9
  go_simp
  exact hK9 _ _ rfl (sy hG9 hC9) bR
 apply aa
 case h1 =>
  intro vs L9 w9 hG9 hC9 hB K9 hK9
  replace hC9:=sb hC9 hG9
  simp only [Act.put,sA,s0,s1] at hK9
  go_simp
  exact hK9 _ _ rfl (sy hG9 hC9) bR
 apply aa
 case h1 =>
  intro vs L9 w9 hG9 hC9 hB K9 hK9
  replace hC9:=sb hC9 hG9
  simp only [Act.put,sA,s0,s1] at hK9
  go_simp
  exact hK9 _ _ rfl (sy hG9 hC9) bR
 refine aa (sQ (bu (bW z.t))) (fun vs L9 w9 hG9 hC9 hB K9 hK9=>?_) ?_
 next =>
  replace hC9:=sb hC9 hG9
  have d1:=fe hB 1
  have d2:=fe hB 2
  simp only [d1,d2] at hK9 ⊢
  go_simp
  refine (hn w9).mono ?_
  rintro en w8 ⟨rfl,hb8⟩
  exact hK9 _ _ rfl (Sw.stay hG9 (by kernel_rfl) (by decide) (hC9.trans (hb8.mono hC9.size))) (fun _=>hb8)
 refine aa (undef) (fun vs L9 w9 hG9 hC9 hB K9 hK9=>?_) ?_
 next =>
  replace hC9:=hC9.here hG9
  have d0:=fe hB 0
  simp only [d0] at hK9 ⊢
  have Lr:=N3.below hC9 N3.lt
  obtain ⟨z0,z1,z2,z3,z4,z5,z6,z7⟩:=cells8 Lr
  obtain ⟨f0,f1,f2,f3,f4,f5,f6,f7⟩:=frz8 Lr
  have hN8:=Lib.hid (db.put (y:=z) (l:=l) Lr (ab hT5 hC9) (ab hO5 hC9))
  have hD8:=Lib.hid (dN (g:=(w.heap.size+1+1)) ((b7).trans (hC9.mono (b7).size)) hge (F TA z.t.length tc) (F OA z.o.length oc) (O U z.got) (O U z.sold) (O U z.missed) (sQ l.D) (sQ l.P) (O U l.n))
  clear Lr
  go_simp
  exact hK9 _ _ rfl (Sw.turn ⟨hD8.out,hN8.out⟩) (fun hq=>(hq (by decide)).elim)
 apply aa
 case h1 =>
  intro vs L9 w9 hG9 hC9 hB K9 hK9
  replace hC9:=hC9.after hG9 (by kernel_rfl)
  have d3:=fe hB 3
  simp only [d3] at hK9 ⊢
  simp only [Act.put,sA,s0,s1] at hK9
  go_simp
  exact hK9 _ _ rfl (Sw.on hG9 (by kernel_rfl) hC9) bR
 refine az fun vs L9 w9 hL9 hC9 hB=>?_
 replace hC9:=hC9.done hL9 (by decide)
 have dl:=ag.eq (hB 5 _ rfl rfl (by decide))
 simp only [dl]
 clear hB dl
 obtain ⟨hD,TB,tb,OB,ob,hN,hT9,hO9⟩:=hC9
 obtain ⟨k0,k1,k2,k3,k4,k5,k6,k7⟩:=cells8 hN
 clear hN
 go_wp2
 refine bodyPost_ret (v:=.tuple #[.agg #[F TB z.t.length tb,F OB z.o.length ob,O U z.got,O U z.sold,O U z.missed,sQ l.D,sQ l.P,O U l.n],sQ (bu (bW z.t))]) (by simp [results,Tryz.results89,go_sem, *]) rfl (bf.mk HT.out (.inr ⟨TB,tb,OB,ob,rfl,hT9,hO9⟩) hD)
set_option maxRecDepth 100000 in
set_option maxHeartbeats 4000000 in
theorem qY (x:aM) (l:Lg) (st pe va:Int) (w:World) (h:aQ w w.heap.size x) (hcap:x.t.length≤x.tc) (z:Oc) (hN:fL x.c ⟨4,st,pe,va⟩=some z) :
  Calls Tryz.prog 89 #[aL x l,.agg #[O U 4,O U st,O U pe,O U va]] w (bf w x l (some (z,bu z.sold))):=by
 have L1:=((ai.new w 42 #[F x.TA x.t.length x.tc,F x.OA x.o.length x.oc,O U x.got,O U x.sold,O U x.missed,sQ l.D,sQ l.P,O U l.n]).alloc (.cells #[O U 4,O U st,O U pe,O U va] 112)).alloc (.cells #[F none 0 0,F none 0 0,O U 0,O U 0,O U 0,sQ ⟨#[]⟩,sQ ⟨#[]⟩,O U 0] 42)
 have L2:=(ai.new1 w (.cells #[F x.TA x.t.length x.tc,F x.OA x.o.length x.oc,O U x.got,O U x.sold,O U x.missed,sQ l.D,sQ l.P,O U l.n] 42) 112 #[O U 4,O U st,O U pe,O U va]).alloc (.cells #[F none 0 0,F none 0 0,O U 0,O U 0,O U 0,sQ ⟨#[]⟩,sQ ⟨#[]⟩,O U 0] 42)
 have L3:=ai.new2 w (.cells #[F x.TA x.t.length x.tc,F x.OA x.o.length x.oc,O U x.got,O U x.sold,O U x.missed,sQ l.D,sQ l.P,O U l.n] 42) (.cells #[O U 4,O U st,O U pe,O U va] 112) 42 #[F none 0 0,F none 0 0,O U 0,O U 0,O U 0,sQ ⟨#[]⟩,sQ ⟨#[]⟩,O U 0]
 have b1:=(Below.refl w.heap.size w).alloc (Nat.le_refl _) (.cells #[F x.TA x.t.length x.tc,F x.OA x.o.length x.oc,O U x.got,O U x.sold,O U x.missed,sQ l.D,sQ l.P,O U l.n] 42)
 have b2:=b1.alloc b1.size (.cells #[O U 4,O U st,O U pe,O U va] 112)
 have b3:=b2.alloc b2.size (.cells #[F none 0 0,F none 0 0,O U 0,O U 0,O U 0,sQ ⟨#[]⟩,sQ ⟨#[]⟩,O U 0] 42)
 have hW:=h.up b3 (Nat.le_refl _)
 have hge:w.heap.size≤w.heap.size+1+1:=by omega
 clear b1 b2 h
 have cS:=fun W hR=>gZ x ⟨4,st,pe,va⟩ W hR hcap
 have hz:=eG hN
 rw [hN] at cS
 clear hN
 have GZ:bn (z.at none 0 none 0):=bm.1 hz.1
 have HT:Hid (ix (some (z,bu z.sold))=bu z.sold):=rfl
 go_enter Tryz.func89,Tryz.ntmps89
 go_wp2_with fail
 generalize (((w.alloc (.cells #[F x.TA x.t.length x.tc,F x.OA x.o.length x.oc,O U x.got,O U x.sold,O U x.missed,sQ l.D,sQ l.P,O U l.n] 42)).alloc (.cells #[O U 4,O U st,O U pe,O U va] 112)).alloc (.cells #[F none 0 0,F none 0 0,O U 0,O U 0,O U 0,sQ ⟨#[]⟩,sQ ⟨#[]⟩,O U 0] 42))=W at L1 L2 L3 b3 hW ⊢
 refine (cS W hW).mono ?_
 rintro e W1 ⟨TA,tc,OA,oc,rfl,hT,hO,hb⟩
 simp only [cj,Option.getD_some,Option.isSome_some,Oc.at,aM.val] at hT hO ⊢
 go_upto_region 4 with fail
 have hal:=(Below.refl W1.heap.size W1).alloc (Nat.le_refl _) (.cells #[F TA z.t.length tc,F OA z.o.length oc,O U z.got,O U z.sold,O U z.missed] 40)
 have hb2:=ar hb hal
 have J1:=L1.below hb2 L1.lt
 have J2:=L2.below hb2 L2.lt
 have J3:=L3.below hb2 L3.lt
 have J6:=ai.new W1 40 #[F TA z.t.length tc,F OA z.o.length oc,O U z.got,O U z.sold,O U z.missed]
 have b4:=ar b3 hb2
 have hT1:=af (ab hT hal) b3.size
 have hO1:=af (ab hO hal) b3.size
 have g26:w.heap.size+1+1 < W1.heap.size:=Nat.lt_of_lt_of_le L3.lt hb.size
 clear hal hb2 hb hT hO L1 L2 L3 b3
 generalize W1.alloc (.cells #[F TA z.t.length tc,F OA z.o.length oc,O U z.got,O U z.sold,O U z.missed] 40)=W2 at J1 J2 J3 J6 b4 hT1 hO1 ⊢
 generalize W1.heap.size=g6 at J6 g26 ⊢
 obtain ⟨c0,c1,c2,c3,c4,c5,c6,c7⟩:=cells8 J1
 go_upto_region 5 with fail
 clear c0 c1 c2 c3 c4 c5 c6 c7
 have hal:=(Below.refl W2.heap.size W2).alloc (Nat.le_refl _) (.cells #[F x.TA x.t.length x.tc,F x.OA x.o.length x.oc,O U x.got,O U x.sold,O U x.missed,sQ l.D,sQ l.P,O U l.n] 42)
 have K1:=J1.below hal J1.lt
 have K2:=J2.below hal J2.lt
 have K3:=J3.below hal J3.lt
 have K6:=J6.below hal J6.lt
 have K8:=ai.new W2 42 #[F x.TA x.t.length x.tc,F x.OA x.o.length x.oc,O U x.got,O U x.sold,O U x.missed,sQ l.D,sQ l.P,O U l.n]
 have b5:=b4.trans (hal.mono b4.size)
 have hT2:=ab hT1 hal
 have hO2:=ab hO1 hal
 have g68:g6 < W2.heap.size:=J6.lt
 clear hal J1 J2 J3 J6 b4 hT1 hO1
 generalize W2.alloc (.cells #[F x.TA x.t.length x.tc,F x.OA x.o.length x.oc,O U x.got,O U x.sold,O U x.missed,sQ l.D,sQ l.P,O U l.n] 42)=W3 at K1 K2 K3 K6 K8 b5 hT2 hO2 ⊢
 generalize W2.heap.size=g8 at K8 g68 ⊢
 have hg8:w.heap.size≤g8:=by omega
 obtain ⟨p0,p1,p2,p3,p4⟩:=cells5 K6
 obtain ⟨q0,q1,q2,q3,q4,q5,q6,q7⟩:=cells8 K8
 obtain ⟨f0,f1,f2,f3,f4,f5,f6,f7⟩:=frz8 K8
 go_upto_region 6 with fail
 obtain ⟨W4,HW4,M8,b6,gr,OT⟩:=gL K8 b5 hg8 (F TA z.t.length tc) (F OA z.o.length oc) (O U z.got) (O U z.sold) (O U z.missed)
 have M1:=OT _ _ _ (by omega) K1
 have M2:=OT _ _ _ (by omega) K2
 have M3:=OT _ _ _ (by omega) K3
 have M6:=OT _ _ _ (by omega) K6
 have hT:=aj hT2 K8 eN gr
 have hO:=aj hO2 K8 eQ gr
 clear p0 p1 p2 p3 p4 q0 q1 q2 q3 q4 q5 q6 q7 f0 f1 f2 f3 f4 K1 K2 K3 K6 K8 hT2 hO2 b5 gr OT
 rw [HW4.out]
 clear HW4
 have hR4:aQ W4 W4.heap.size (z.at TA tc OA oc):=⟨aB hT,aB hO⟩
 obtain ⟨s0,s1,s2,s3⟩:=cells4 M2
 obtain ⟨p0,p1,p2,p3,p4⟩:=cells5 M6
 have hn:=fun W=>cl z.sold W GZ.s.1 (by have:=GZ.s.2; have e:(z.at none 0 none 0).sold=z.sold:=rfl; rw [e] at this; omega)
 clear hR4 M1 M2
 go_wp2_with fail
 refine an (Sw 4 (fun W9=>Below W4.heap.size W4 W9) (fun W9=>Below w.heap.size w W9∧db W9 w.heap.size (w.heap.size+1+1) z l)) (fun i w1 w2=>i ∉ [4]→Below w1.heap.size w1 w2) (by kernel_rfl) (by kernel_rfl) (by kernel_rfl) (Sw.start (Below.refl _ _).drew) ?_
 simp only [ax,Act.put,List.setIfInBounds_toArray,List.set_cons_zero,List.set_cons_succ,Nat.zero_add,Nat.reduceAdd]
 apply aa
 case h1 =>
  intro vs L9 w9 hG9 hC9 hB K9 hK9
  replace hC9:=sb hC9 hG9
  have q0:w9.cell? ⟨g8,0,none⟩=some (F TA z.t.length tc):=(M8.below hC9 M8.lt).cell 0
  have q1:w9.cell? ⟨g8,1,none⟩=some (F OA z.o.length oc):=(M8.below hC9 M8.lt).cell 1
  have q2:w9.cell? ⟨g8,2,none⟩=some (O U z.got):=(M8.below hC9 M8.lt).cell 2
  have q3:w9.cell? ⟨g8,3,none⟩=some (O U z.sold):=(M8.below hC9 M8.lt).cell 3
  have q4:w9.cell? ⟨g8,4,none⟩=some (O U z.missed):=(M8.below hC9 M8.lt).cell 4
  have q5:w9.cell? ⟨g8,5,none⟩=some (sQ l.D):=(M8.below hC9 M8.lt).cell 5
  have q6:w9.cell? ⟨g8,6,none⟩=some (sQ l.P):=(M8.below hC9 M8.lt).cell 6
  have q7:w9.cell? ⟨g8,7,none⟩=some (O U l.n):=(M8.below hC9 M8.lt).cell 7
  simp only [Act.put,sA,s0,s1] at hK9
  go_simp
  exact hK9 _ _ rfl (sy hG9 hC9) bR
 apply aa
 case h1 =>
  intro vs L9 w9 hG9 hC9 hB K9 hK9
  replace hC9:=sb hC9 hG9
  simp only [Act.put,sA,s0,s1] at hK9
  go_simp
  exact hK9 _ _ rfl (sy hG9 hC9) bR
 apply aa
 case h1 =>
  intro vs L9 w9 hG9 hC9 hB K9 hK9
  replace hC9:=sb hC9 hG9
  have d1:=fe hB 1
  simp only [d1] at hK9 ⊢
  have q0:w9.cell? ⟨g6,3,none⟩=some (O U z.sold):=(M6.below hC9 M6.lt).cell 3
  simp only [Act.put,sA,s0,s1] at hK9
  go_simp
  exact hK9 _ _ rfl (sy hG9 hC9) bR
 refine aa (sQ (bu z.sold)) (fun vs L9 w9 hG9 hC9 hB K9 hK9=>?_) ?_
 next =>
  replace hC9:=sb hC9 hG9
  have d2:=fe hB 2
  simp only [d2] at hK9 ⊢
  go_simp
  refine (hn w9).mono ?_
  rintro en w8 ⟨rfl,hb8⟩
  exact hK9 _ _ rfl (Sw.stay hG9 (by kernel_rfl) (by decide) (hC9.trans (hb8.mono hC9.size))) (fun _=>hb8)
 refine aa (undef) (fun vs L9 w9 hG9 hC9 hB K9 hK9=>?_) ?_
 next =>
  replace hC9:=hC9.here hG9
  have d0:=fe hB 0
  simp only [d0] at hK9 ⊢
  have Lr:=M3.below hC9 M3.lt
  obtain ⟨z0,z1,z2,z3,z4,z5,z6,z7⟩:=cells8 Lr
  obtain ⟨f0,f1,f2,f3,f4,f5,f6,f7⟩:=frz8 Lr
  have hN8:=Lib.hid (db.put (y:=z) (l:=l) Lr (ab hT hC9) (ab hO hC9))
  have hD8:=Lib.hid (dN (g:=(w.heap.size+1+1)) ((b6).trans (hC9.mono (b6).size)) hge (F TA z.t.length tc) (F OA z.o.length oc) (O U z.got) (O U z.sold) (O U z.missed) (sQ l.D) (sQ l.P) (O U l.n))
  clear Lr
  go_simp
  exact hK9 _ _ rfl (Sw.turn ⟨hD8.out,hN8.out⟩) (fun hq=>(hq (by decide)).elim)
 apply aa
 case h1 =>
  intro vs L9 w9 hG9 hC9 hB K9 hK9
  replace hC9:=hC9.after hG9 (by kernel_rfl)
  have d3:=fe hB 3
  simp only [d3] at hK9 ⊢
  simp only [Act.put,sA,s0,s1] at hK9
  go_simp
  exact hK9 _ _ rfl (Sw.on hG9 (by kernel_rfl) hC9) bR
 refine az fun vs L9 w9 hL9 hC9 hB=>?_
 replace hC9:=hC9.done hL9 (by decide)
 have dl:=ag.eq (hB 5 _ rfl rfl (by decide))
 simp only [dl]
 clear hB dl
 obtain ⟨hD,TB,tb,OB,ob,hN,hT9,hO9⟩:=hC9
 obtain ⟨k0,k1,k2,k3,k4,k5,k6,k7⟩:=cells8 hN
 clear hN
 go_wp2
 refine bodyPost_ret (v:=.tuple #[.agg #[F TB z.t.length tb,F OB z.o.length ob,O U z.got,O U z.sold,O U z.missed,sQ l.D,sQ l.P,O U l.n],sQ (bu z.sold)]) (by simp [results,Tryz.results89,go_sem, *]) rfl (bf.mk HT.out (.inr ⟨TB,tb,OB,ob,rfl,hT9,hO9⟩) hD)
set_option maxRecDepth 100000 in
set_option maxHeartbeats 4000000 in
theorem qZ (x:aM) (l:Lg) (st pe va:Int) (w:World) (h:aQ w w.heap.size x) (hcap:x.t.length≤x.tc) (z:Oc) (hN:fL x.c ⟨5,st,pe,va⟩=some z) :
  Calls Tryz.prog 89 #[aL x l,.agg #[O U 5,O U st,O U pe,O U va]] w (bf w x l (some (z,bu z.missed))):=by
 have L1:=((ai.new w 42 #[F x.TA x.t.length x.tc,F x.OA x.o.length x.oc,O U x.got,O U x.sold,O U x.missed,sQ l.D,sQ l.P,O U l.n]).alloc (.cells #[O U 5,O U st,O U pe,O U va] 112)).alloc (.cells #[F none 0 0,F none 0 0,O U 0,O U 0,O U 0,sQ ⟨#[]⟩,sQ ⟨#[]⟩,O U 0] 42)
 have L2:=(ai.new1 w (.cells #[F x.TA x.t.length x.tc,F x.OA x.o.length x.oc,O U x.got,O U x.sold,O U x.missed,sQ l.D,sQ l.P,O U l.n] 42) 112 #[O U 5,O U st,O U pe,O U va]).alloc (.cells #[F none 0 0,F none 0 0,O U 0,O U 0,O U 0,sQ ⟨#[]⟩,sQ ⟨#[]⟩,O U 0] 42)
 have L3:=ai.new2 w (.cells #[F x.TA x.t.length x.tc,F x.OA x.o.length x.oc,O U x.got,O U x.sold,O U x.missed,sQ l.D,sQ l.P,O U l.n] 42) (.cells #[O U 5,O U st,O U pe,O U va] 112) 42 #[F none 0 0,F none 0 0,O U 0,O U 0,O U 0,sQ ⟨#[]⟩,sQ ⟨#[]⟩,O U 0]
 have b1:=(Below.refl w.heap.size w).alloc (Nat.le_refl _) (.cells #[F x.TA x.t.length x.tc,F x.OA x.o.length x.oc,O U x.got,O U x.sold,O U x.missed,sQ l.D,sQ l.P,O U l.n] 42)
 have b2:=b1.alloc b1.size (.cells #[O U 5,O U st,O U pe,O U va] 112)
 have b3:=b2.alloc b2.size (.cells #[F none 0 0,F none 0 0,O U 0,O U 0,O U 0,sQ ⟨#[]⟩,sQ ⟨#[]⟩,O U 0] 42)
 have hW:=h.up b3 (Nat.le_refl _)
 have hge:w.heap.size≤w.heap.size+1+1:=by omega
 clear b1 b2 h
 have cS:=fun W hR=>gZ x ⟨5,st,pe,va⟩ W hR hcap
 have hz:=eG hN
 rw [hN] at cS
 clear hN
 have GZ:bn (z.at none 0 none 0):=bm.1 hz.1
 have HT:Hid (ix (some (z,bu z.missed))=bu z.missed):=rfl
 go_enter Tryz.func89,Tryz.ntmps89
 go_wp2_with fail
 generalize (((w.alloc (.cells #[F x.TA x.t.length x.tc,F x.OA x.o.length x.oc,O U x.got,O U x.sold,O U x.missed,sQ l.D,sQ l.P,O U l.n] 42)).alloc (.cells #[O U 5,O U st,O U pe,O U va] 112)).alloc (.cells #[F none 0 0,F none 0 0,O U 0,O U 0,O U 0,sQ ⟨#[]⟩,sQ ⟨#[]⟩,O U 0] 42))=W at L1 L2 L3 b3 hW ⊢
 refine (cS W hW).mono ?_
 rintro e W1 ⟨TA,tc,OA,oc,rfl,hT,hO,hb⟩
 simp only [cj,Option.getD_some,Option.isSome_some,Oc.at,aM.val] at hT hO ⊢
 go_upto_region 4 with fail
 have hal:=(Below.refl W1.heap.size W1).alloc (Nat.le_refl _) (.cells #[F TA z.t.length tc,F OA z.o.length oc,O U z.got,O U z.sold,O U z.missed] 40)
 have hb2:=ar hb hal
 have J1:=L1.below hb2 L1.lt
 have J2:=L2.below hb2 L2.lt
 have J3:=L3.below hb2 L3.lt
 have J6:=ai.new W1 40 #[F TA z.t.length tc,F OA z.o.length oc,O U z.got,O U z.sold,O U z.missed]
 have b4:=ar b3 hb2
 have hT1:=af (ab hT hal) b3.size
 have hO1:=af (ab hO hal) b3.size
 have g26:w.heap.size+1+1 < W1.heap.size:=Nat.lt_of_lt_of_le L3.lt hb.size
 clear hal hb2 hb hT hO L1 L2 L3 b3
 generalize W1.alloc (.cells #[F TA z.t.length tc,F OA z.o.length oc,O U z.got,O U z.sold,O U z.missed] 40)=W2 at J1 J2 J3 J6 b4 hT1 hO1 ⊢
 generalize W1.heap.size=g6 at J6 g26 ⊢
 obtain ⟨c0,c1,c2,c3,c4,c5,c6,c7⟩:=cells8 J1
 go_upto_region 5 with fail
 clear c0 c1 c2 c3 c4 c5 c6 c7
 have hal:=(Below.refl W2.heap.size W2).alloc (Nat.le_refl _) (.cells #[F x.TA x.t.length x.tc,F x.OA x.o.length x.oc,O U x.got,O U x.sold,O U x.missed,sQ l.D,sQ l.P,O U l.n] 42)
 have K1:=J1.below hal J1.lt
 have K2:=J2.below hal J2.lt
 have K3:=J3.below hal J3.lt
 have K6:=J6.below hal J6.lt
 have K8:=ai.new W2 42 #[F x.TA x.t.length x.tc,F x.OA x.o.length x.oc,O U x.got,O U x.sold,O U x.missed,sQ l.D,sQ l.P,O U l.n]
 have b5:=b4.trans (hal.mono b4.size)
 have hT2:=ab hT1 hal
 have hO2:=ab hO1 hal
 have g68:g6 < W2.heap.size:=J6.lt
 clear hal J1 J2 J3 J6 b4 hT1 hO1
 generalize W2.alloc (.cells #[F x.TA x.t.length x.tc,F x.OA x.o.length x.oc,O U x.got,O U x.sold,O U x.missed,sQ l.D,sQ l.P,O U l.n] 42)=W3 at K1 K2 K3 K6 K8 b5 hT2 hO2 ⊢
 generalize W2.heap.size=g8 at K8 g68 ⊢
 have hg8:w.heap.size≤g8:=by omega
 obtain ⟨p0,p1,p2,p3,p4⟩:=cells5 K6
 obtain ⟨q0,q1,q2,q3,q4,q5,q6,q7⟩:=cells8 K8
 obtain ⟨f0,f1,f2,f3,f4,f5,f6,f7⟩:=frz8 K8
 go_upto_region 6 with fail
 obtain ⟨W4,HW4,M8,b6,gr,OT⟩:=gL K8 b5 hg8 (F TA z.t.length tc) (F OA z.o.length oc) (O U z.got) (O U z.sold) (O U z.missed)
 have M1:=OT _ _ _ (by omega) K1
 have M2:=OT _ _ _ (by omega) K2
 have M3:=OT _ _ _ (by omega) K3
 have M6:=OT _ _ _ (by omega) K6
 have hT:=aj hT2 K8 eN gr
 have hO:=aj hO2 K8 eQ gr
 clear p0 p1 p2 p3 p4 q0 q1 q2 q3 q4 q5 q6 q7 f0 f1 f2 f3 f4 K1 K2 K3 K6 K8 hT2 hO2 b5 gr OT
 rw [HW4.out]
 clear HW4
 have hR4:aQ W4 W4.heap.size (z.at TA tc OA oc):=⟨aB hT,aB hO⟩
 obtain ⟨s0,s1,s2,s3⟩:=cells4 M2
 obtain ⟨p0,p1,p2,p3,p4⟩:=cells5 M6
 have hn:=fun W=>cl z.missed W GZ.m.1 (by have:=GZ.m.2; have e:(z.at none 0 none 0).missed=z.missed:=rfl; rw [e] at this; omega)
 clear hR4 M1 M2
 go_wp2_with fail
 refine an (Sw 4 (fun W9=>Below W4.heap.size W4 W9) (fun W9=>Below w.heap.size w W9∧db W9 w.heap.size (w.heap.size+1+1) z l)) (fun i w1 w2=>i ∉ [4]→Below w1.heap.size w1 w2) (by kernel_rfl) (by kernel_rfl) (by kernel_rfl) (Sw.start (Below.refl _ _).drew) ?_
 simp only [ax,Act.put,List.setIfInBounds_toArray,List.set_cons_zero,List.set_cons_succ,Nat.zero_add,Nat.reduceAdd]
 apply aa
 case h1 =>
  intro vs L9 w9 hG9 hC9 hB K9 hK9
  replace hC9:=sb hC9 hG9
  have q0:w9.cell? ⟨g8,0,none⟩=some (F TA z.t.length tc):=(M8.below hC9 M8.lt).cell 0
  have q1:w9.cell? ⟨g8,1,none⟩=some (F OA z.o.length oc):=(M8.below hC9 M8.lt).cell 1
  have q2:w9.cell? ⟨g8,2,none⟩=some (O U z.got):=(M8.below hC9 M8.lt).cell 2
  have q3:w9.cell? ⟨g8,3,none⟩=some (O U z.sold):=(M8.below hC9 M8.lt).cell 3
  have q4:w9.cell? ⟨g8,4,none⟩=some (O U z.missed):=(M8.below hC9 M8.lt).cell 4
  have q5:w9.cell? ⟨g8,5,none⟩=some (sQ l.D):=(M8.below hC9 M8.lt).cell 5
  have q6:w9.cell? ⟨g8,6,none⟩=some (sQ l.P):=(M8.below hC9 M8.lt).cell 6
  have q7:w9.cell? ⟨g8,7,none⟩=some (O U l.n):=(M8.below hC9 M8.lt).cell 7
  simp only [Act.put,sA,s0,s1] at hK9
  go_simp
  exact hK9 _ _ rfl (sy hG9 hC9) bR
 apply aa
 case h1 =>
  intro vs L9 w9 hG9 hC9 hB K9 hK9
  replace hC9:=sb hC9 hG9
  simp only [Act.put,sA,s0,s1] at hK9
  go_simp
  exact hK9 _ _ rfl (sy hG9 hC9) bR
 apply aa
 case h1 =>
  intro vs L9 w9 hG9 hC9 hB K9 hK9
  replace hC9:=sb hC9 hG9
  have d1:=fe hB 1
  simp only [d1] at hK9 ⊢
  have q0:w9.cell? ⟨g6,4,none⟩=some (O U z.missed):=(M6.below hC9 M6.lt).cell 4
  simp only [Act.put,sA,s0,s1] at hK9
  go_simp
  exact hK9 _ _ rfl (sy hG9 hC9) bR
 refine aa (sQ (bu z.missed)) (fun vs L9 w9 hG9 hC9 hB K9 hK9=>?_) ?_
 next =>
  replace hC9:=sb hC9 hG9
  have d2:=fe hB 2
  simp only [d2] at hK9 ⊢
  go_simp
  refine (hn w9).mono ?_
  rintro en w8 ⟨rfl,hb8⟩
  exact hK9 _ _ rfl (Sw.stay hG9 (by kernel_rfl) (by decide) (hC9.trans (hb8.mono hC9.size))) (fun _=>hb8)
 refine aa (undef) (fun vs L9 w9 hG9 hC9 hB K9 hK9=>?_) ?_
 next =>
  replace hC9:=hC9.here hG9
  have d0:=fe hB 0
  simp only [d0] at hK9 ⊢
  have Lr:=M3.below hC9 M3.lt
  obtain ⟨z0,z1,z2,z3,z4,z5,z6,z7⟩:=cells8 Lr
  obtain ⟨f0,f1,f2,f3,f4,f5,f6,f7⟩:=frz8 Lr
  have hN8:=Lib.hid (db.put (y:=z) (l:=l) Lr (ab hT hC9) (ab hO hC9))
  have hD8:=Lib.hid (dN (g:=(w.heap.size+1+1)) ((b6).trans (hC9.mono (b6).size)) hge (F TA z.t.length tc) (F OA z.o.length oc) (O U z.got) (O U z.sold) (O U z.missed) (sQ l.D) (sQ l.P) (O U l.n))
  clear Lr
  go_simp
  exact hK9 _ _ rfl (Sw.turn ⟨hD8.out,hN8.out⟩) (fun hq=>(hq (by decide)).elim)
 apply aa
 case h1 =>
  intro vs L9 w9 hG9 hC9 hB K9 hK9
  replace hC9:=hC9.after hG9 (by kernel_rfl)
  have d3:=fe hB 3
  simp only [d3] at hK9 ⊢
  simp only [Act.put,sA,s0,s1] at hK9
  go_simp
  exact hK9 _ _ rfl (Sw.on hG9 (by kernel_rfl) hC9) bR
 refine az fun vs L9 w9 hL9 hC9 hB=>?_
 replace hC9:=hC9.done hL9 (by decide)
 have dl:=ag.eq (hB 5 _ rfl rfl (by decide))
 simp only [dl]
 clear hB dl
 obtain ⟨hD,TB,tb,OB,ob,hN,hT9,hO9⟩:=hC9
 obtain ⟨k0,k1,k2,k3,k4,k5,k6,k7⟩:=cells8 hN
 clear hN
 go_wp2
 refine bodyPost_ret (v:=.tuple #[.agg #[F TB z.t.length tb,F OB z.o.length ob,O U z.got,O U z.sold,O U z.missed,sQ l.D,sQ l.P,O U l.n],sQ (bu z.missed)]) (by simp [results,Tryz.results89,go_sem, *]) rfl (bf.mk HT.out (.inr ⟨TB,tb,OB,ob,rfl,hT9,hO9⟩) hD)
set_option maxRecDepth 100000 in
set_option maxHeartbeats 4000000 in
theorem q8 (x:aM) (l:Lg) (kd st pe va:Int) (w:World) (h:aQ w w.heap.size x) (hcap:x.t.length≤x.tc) (z:Oc) (hN:fL x.c ⟨kd,st,pe,va⟩=some z) (hk1:kd ≠ 1) (hk4:kd ≠ 4) (hk5:kd ≠ 5) :
  Calls Tryz.prog 89 #[aL x l,.agg #[O U kd,O U st,O U pe,O U va]] w (bf w x l (some (z,dP z.off st))):=by
 have L1:=((ai.new w 42 #[F x.TA x.t.length x.tc,F x.OA x.o.length x.oc,O U x.got,O U x.sold,O U x.missed,sQ l.D,sQ l.P,O U l.n]).alloc (.cells #[O U kd,O U st,O U pe,O U va] 112)).alloc (.cells #[F none 0 0,F none 0 0,O U 0,O U 0,O U 0,sQ ⟨#[]⟩,sQ ⟨#[]⟩,O U 0] 42)
 have L2:=(ai.new1 w (.cells #[F x.TA x.t.length x.tc,F x.OA x.o.length x.oc,O U x.got,O U x.sold,O U x.missed,sQ l.D,sQ l.P,O U l.n] 42) 112 #[O U kd,O U st,O U pe,O U va]).alloc (.cells #[F none 0 0,F none 0 0,O U 0,O U 0,O U 0,sQ ⟨#[]⟩,sQ ⟨#[]⟩,O U 0] 42)
 have L3:=ai.new2 w (.cells #[F x.TA x.t.length x.tc,F x.OA x.o.length x.oc,O U x.got,O U x.sold,O U x.missed,sQ l.D,sQ l.P,O U l.n] 42) (.cells #[O U kd,O U st,O U pe,O U va] 112) 42 #[F none 0 0,F none 0 0,O U 0,O U 0,O U 0,sQ ⟨#[]⟩,sQ ⟨#[]⟩,O U 0]
 have b1:=(Below.refl w.heap.size w).alloc (Nat.le_refl _) (.cells #[F x.TA x.t.length x.tc,F x.OA x.o.length x.oc,O U x.got,O U x.sold,O U x.missed,sQ l.D,sQ l.P,O U l.n] 42)
 have b2:=b1.alloc b1.size (.cells #[O U kd,O U st,O U pe,O U va] 112)
 have b3:=b2.alloc b2.size (.cells #[F none 0 0,F none 0 0,O U 0,O U 0,O U 0,sQ ⟨#[]⟩,sQ ⟨#[]⟩,O U 0] 42)
 have hW:=h.up b3 (Nat.le_refl _)
 have hge:w.heap.size≤w.heap.size+1+1:=by omega
 clear b1 b2 h
 have cS:=fun W hR=>gZ x ⟨kd,st,pe,va⟩ W hR hcap
 have hz:=eG hN
 rw [hN] at cS
 clear hN
 have GZ:bn (z.at none 0 none 0):=bm.1 hz.1
 have HT:Hid (ix (some (z,dP z.off st))=dP z.off st):=rfl
 have n1:(kd == 1)=false:=beq_false_of_ne hk1
 have n4:(kd == 4)=false:=beq_false_of_ne hk4
 have n5:(kd == 5)=false:=beq_false_of_ne hk5
 clear hk1 hk4 hk5
 go_enter Tryz.func89,Tryz.ntmps89
 go_wp2_with fail
 generalize (((w.alloc (.cells #[F x.TA x.t.length x.tc,F x.OA x.o.length x.oc,O U x.got,O U x.sold,O U x.missed,sQ l.D,sQ l.P,O U l.n] 42)).alloc (.cells #[O U kd,O U st,O U pe,O U va] 112)).alloc (.cells #[F none 0 0,F none 0 0,O U 0,O U 0,O U 0,sQ ⟨#[]⟩,sQ ⟨#[]⟩,O U 0] 42))=W at L1 L2 L3 b3 hW ⊢
 refine (cS W hW).mono ?_
 rintro e W1 ⟨TA,tc,OA,oc,rfl,hT,hO,hb⟩
 simp only [cj,Option.getD_some,Option.isSome_some,Oc.at,aM.val] at hT hO ⊢
 go_upto_region 4 with fail
 have hal:=(Below.refl W1.heap.size W1).alloc (Nat.le_refl _) (.cells #[F TA z.t.length tc,F OA z.o.length oc,O U z.got,O U z.sold,O U z.missed] 40)
 have hb2:=ar hb hal
 have J1:=L1.below hb2 L1.lt
 have J2:=L2.below hb2 L2.lt
 have J3:=L3.below hb2 L3.lt
 have J6:=ai.new W1 40 #[F TA z.t.length tc,F OA z.o.length oc,O U z.got,O U z.sold,O U z.missed]
 have b4:=ar b3 hb2
 have hT1:=af (ab hT hal) b3.size
 have hO1:=af (ab hO hal) b3.size
 have g26:w.heap.size+1+1 < W1.heap.size:=Nat.lt_of_lt_of_le L3.lt hb.size
 clear hal hb2 hb hT hO L1 L2 L3 b3
 generalize W1.alloc (.cells #[F TA z.t.length tc,F OA z.o.length oc,O U z.got,O U z.sold,O U z.missed] 40)=W2 at J1 J2 J3 J6 b4 hT1 hO1 ⊢
 generalize W1.heap.size=g6 at J6 g26 ⊢
 obtain ⟨c0,c1,c2,c3,c4,c5,c6,c7⟩:=cells8 J1
 go_upto_region 5 with fail
 clear c0 c1 c2 c3 c4 c5 c6 c7
 have hal:=(Below.refl W2.heap.size W2).alloc (Nat.le_refl _) (.cells #[F x.TA x.t.length x.tc,F x.OA x.o.length x.oc,O U x.got,O U x.sold,O U x.missed,sQ l.D,sQ l.P,O U l.n] 42)
 have K1:=J1.below hal J1.lt
 have K2:=J2.below hal J2.lt
 have K3:=J3.below hal J3.lt
 have K6:=J6.below hal J6.lt
 have K8:=ai.new W2 42 #[F x.TA x.t.length x.tc,F x.OA x.o.length x.oc,O U x.got,O U x.sold,O U x.missed,sQ l.D,sQ l.P,O U l.n]
 have b5:=b4.trans (hal.mono b4.size)
 have hT2:=ab hT1 hal
 have hO2:=ab hO1 hal
 have g68:g6 < W2.heap.size:=J6.lt
 clear hal J1 J2 J3 J6 b4 hT1 hO1
 generalize W2.alloc (.cells #[F x.TA x.t.length x.tc,F x.OA x.o.length x.oc,O U x.got,O U x.sold,O U x.missed,sQ l.D,sQ l.P,O U l.n] 42)=W3 at K1 K2 K3 K6 K8 b5 hT2 hO2 ⊢
 generalize W2.heap.size=g8 at K8 g68 ⊢
 have hg8:w.heap.size≤g8:=by omega
 obtain ⟨p0,p1,p2,p3,p4⟩:=cells5 K6
 obtain ⟨q0,q1,q2,q3,q4,q5,q6,q7⟩:=cells8 K8
 obtain ⟨f0,f1,f2,f3,f4,f5,f6,f7⟩:=frz8 K8
 go_upto_region 6 with fail
 obtain ⟨W4,HW4,M8,b6,gr,OT⟩:=gL K8 b5 hg8 (F TA z.t.length tc) (F OA z.o.length oc) (O U z.got) (O U z.sold) (O U z.missed)
 have M1:=OT _ _ _ (by omega) K1
 have M2:=OT _ _ _ (by omega) K2
 have M3:=OT _ _ _ (by omega) K3
 have M6:=OT _ _ _ (by omega) K6
 have hT:=aj hT2 K8 eN gr
 have hO:=aj hO2 K8 eQ gr
 clear p0 p1 p2 p3 p4 q0 q1 q2 q3 q4 q5 q6 q7 f0 f1 f2 f3 f4 K1 K2 K3 K6 K8 hT2 hO2 b5 gr OT
 rw [HW4.out]
 clear HW4
 have hR4:aQ W4 W4.heap.size (z.at TA tc OA oc):=⟨aB hT,aB hO⟩
 obtain ⟨s0,s1,s2,s3⟩:=cells4 M2
 obtain ⟨p0,p1,p2,p3,p4⟩:=cells5 M6
 have hn:=fun W hR=>lc (z.at TA tc OA oc) st W hR
 have e9:(jn (z.at TA tc OA oc) st).getD cd=dP z.off st:=by
  unfold jn
  rw [show (am (z.at TA tc OA oc) && aN (z.at TA tc OA oc).t st)=true from by rw [show am (z.at TA tc OA oc)=true from hz.1]; exact hz.2]
  rfl
 rw [e9] at hn
 clear e9
 go_wp2_with fail
 refine an (Sw 5 (fun W9=>Below W4.heap.size W4 W9) (fun W9=>Below w.heap.size w W9∧db W9 w.heap.size (w.heap.size+1+1) z l)) (fun i w1 w2=>i ∉ [5]→Below w1.heap.size w1 w2) (by kernel_rfl) (by kernel_rfl) (by kernel_rfl) (Sw.start (Below.refl _ _).drew) ?_
 simp only [ax,Act.put,List.setIfInBounds_toArray,List.set_cons_zero,List.set_cons_succ,Nat.zero_add,Nat.reduceAdd]
 apply aa
 case h1 =>
  intro vs L9 w9 hG9 hC9 hB K9 hK9
  replace hC9:=sb hC9 hG9
  have q0:w9.cell? ⟨g8,0,none⟩=some (F TA z.t.length tc):=(M8.below hC9 M8.lt).cell 0
  have q1:w9.cell? ⟨g8,1,none⟩=some (F OA z.o.length oc):=(M8.below hC9 M8.lt).cell 1
  have q2:w9.cell? ⟨g8,2,none⟩=some (O U z.got):=(M8.below hC9 M8.lt).cell 2
  have q3:w9.cell? ⟨g8,3,none⟩=some (O U z.sold):=(M8.below hC9 M8.lt).cell 3
  have q4:w9.cell? ⟨g8,4,none⟩=some (O U z.missed):=(M8.below hC9 M8.lt).cell 4
  have q5:w9.cell? ⟨g8,5,none⟩=some (sQ l.D):=(M8.below hC9 M8.lt).cell 5
  have q6:w9.cell? ⟨g8,6,none⟩=some (sQ l.P):=(M8.below hC9 M8.lt).cell 6
  have q7:w9.cell? ⟨g8,7,none⟩=some (O U l.n):=(M8.below hC9 M8.lt).cell 7
  simp only [Act.put,sA,s0,s1] at hK9
  go_simp
  exact hK9 _ _ rfl (sy hG9 hC9) bR
 apply aa
 case h1 =>
  intro vs L9 w9 hG9 hC9 hB K9 hK9
  replace hC9:=sb hC9 hG9
  have q0:w9.cell? ⟨g6,0,none⟩=some (F TA z.t.length tc):=(M6.below hC9 M6.lt).cell 0
  have q1:w9.cell? ⟨g6,1,none⟩=some (F OA z.o.length oc):=(M6.below hC9 M6.lt).cell 1
  have q2:w9.cell? ⟨g6,2,none⟩=some (O U z.got):=(M6.below hC9 M6.lt).cell 2
  have q3:w9.cell? ⟨g6,3,none⟩=some (O U z.sold):=(M6.below hC9 M6.lt).cell 3
  have q4:w9.cell? ⟨g6,4,none⟩=some (O U z.missed):=(M6.below hC9 M6.lt).cell 4
  simp only [Act.put,sA,s0,s1] at hK9
  go_simp
  exact hK9 _ _ rfl (sy hG9 hC9) bR
 apply aa
 case h1 =>
  intro vs L9 w9 hG9 hC9 hB K9 hK9
  replace hC9:=sb hC9 hG9
  simp only [Act.put,sA,s0,s1] at hK9
  go_simp
  exact hK9 _ _ rfl (sy hG9 hC9) bR
 apply aa
 case h1 =>
  intro vs L9 w9 hG9 hC9 hB K9 hK9
  replace hC9:=sb hC9 hG9
  have d2:=fe hB 2
  simp only [d2] at hK9 ⊢
  have q0:w9.cell? ⟨(w.heap.size+1),1,none⟩=some (O U st):=(M2.below hC9 M2.lt).cell 1
  simp only [Act.put,sA,s0,s1] at hK9
  go_simp
  exact hK9 _ _ rfl (sy hG9 hC9) bR
 refine aa (sQ (dP z.off st)) (fun vs L9 w9 hG9 hC9 hB K9 hK9=>?_) ?_
 next =>
  replace hC9:=sb hC9 hG9
  have d1:=fe hB 1
  have d3:=fe hB 3
  simp only [d1,d3] at hK9 ⊢
  go_simp
  refine (hn w9 (hR4.then hC9)).mono ?_
  rintro en w8 ⟨rfl,hb8⟩
  exact hK9 _ _ rfl (Sw.stay hG9 (by kernel_rfl) (by decide) (hC9.trans (hb8.mono hC9.size))) (fun _=>hb8)
 refine aa (undef) (fun vs L9 w9 hG9 hC9 hB K9 hK9=>?_) ?_
 next =>
  replace hC9:=hC9.here hG9
  have d0:=fe hB 0
  simp only [d0] at hK9 ⊢
  have Lr:=M3.below hC9 M3.lt
  obtain ⟨z0,z1,z2,z3,z4,z5,z6,z7⟩:=cells8 Lr
  obtain ⟨f0,f1,f2,f3,f4,f5,f6,f7⟩:=frz8 Lr
  have hN8:=Lib.hid (db.put (y:=z) (l:=l) Lr (ab hT hC9) (ab hO hC9))
  have hD8:=Lib.hid (dN (g:=(w.heap.size+1+1)) ((b6).trans (hC9.mono (b6).size)) hge (F TA z.t.length tc) (F OA z.o.length oc) (O U z.got) (O U z.sold) (O U z.missed) (sQ l.D) (sQ l.P) (O U l.n))
  clear Lr
  go_simp
  exact hK9 _ _ rfl (Sw.turn ⟨hD8.out,hN8.out⟩) (fun hq=>(hq (by decide)).elim)
 apply aa
 case h1 =>
  intro vs L9 w9 hG9 hC9 hB K9 hK9
  replace hC9:=hC9.after hG9 (by kernel_rfl)
  have d4:=fe hB 4
  simp only [d4] at hK9 ⊢
  simp only [Act.put,sA,s0,s1] at hK9
  go_simp
  exact hK9 _ _ rfl (Sw.on hG9 (by kernel_rfl) hC9) bR
 refine az fun vs L9 w9 hL9 hC9 hB=>?_
 replace hC9:=hC9.done hL9 (by decide)
 have dl:=ag.eq (hB 6 _ rfl rfl (by decide))
 simp only [dl]
 clear hB dl
 obtain ⟨hD,TB,tb,OB,ob,hN,hT9,hO9⟩:=hC9
 obtain ⟨k0,k1,k2,k3,k4,k5,k6,k7⟩:=cells8 hN
 clear hN
 go_wp2
 refine bodyPost_ret (v:=.tuple #[.agg #[F TB z.t.length tb,F OB z.o.length ob,O U z.got,O U z.sold,O U z.missed,sQ l.D,sQ l.P,O U l.n],sQ (dP z.off st)]) (by simp [results,Tryz.results89,go_sem, *]) rfl (bf.mk HT.out (.inr ⟨TB,tb,OB,ob,rfl,hT9,hO9⟩) hD)
theorem eR (x:aM) (l:Lg) (s:dH) (w:World) (h:aQ w w.heap.size x) (hcap:x.t.length≤x.tc) :
  Calls Tryz.prog 89 #[aL x l,s.val] w (bf w x l (bL x s)):=by
 obtain ⟨kd,st,pe,va⟩:=s
 unfold bL
 cases hN:fL x.c ⟨kd,st,pe,va⟩ with
 | none=>exact qX x l kd st pe va w h hcap hN
 | some z =>
  show Calls _ _ _ _ (bf w x l (some (z,iv z.off ⟨kd,st,pe,va⟩)))
  unfold iv
  by_cases h1:kd=1
  ·subst h1; exact rU x l st pe va w h hcap z hN
  ·by_cases h4:kd=4
   ·subst h4; exact qY x l st pe va w h hcap z hN
   ·by_cases h5:kd=5
    ·subst h5; exact qZ x l st pe va w h hcap z hN
    ·simp only [h1,h4,h5,if_false]
     exact q8 x l kd st pe va w h hcap z hN h1 h4 h5
def i8 (w:World) (g:Nat):Prop:=∃ ev,w.cell? ⟨g,0,none⟩=some ev∧(ev=.nilIface ∨ ∃ te pe,ev=.iface te pe)
structure LW (w:World):Prop where
 tab:hU w
 syn:i8 w 2
 rng:i8 w 3
 ml:∃ m:Int,w.cell? ⟨0,0,none⟩=some (O U m)
theorem qo {w:World} {a:Addr} {v:Value} (h:w.cell? a=some v):a.block < w.heap.size:=by
 rcases Nat.lt_or_ge a.block w.heap.size with h1 | h1
 ·exact h1
 ·unfold World.cell? at h; simp [Array.getElem?_eq_none h1] at h
theorem i8.then {w w' : World} {g:Nat} (h:i8 w g) (hb:Below w.heap.size w w'):i8 w' g:=by
 obtain ⟨ev,h1,h2⟩:=h
 exact ⟨ev,(hb.cell (qo h1)).trans h1,h2⟩
theorem LW.then {w w' : World} (h:LW w) (hb:Below w.heap.size w w'):LW w':=by
 obtain ⟨h1,h2,h3,m,h4⟩:=h
 exact ⟨h1.then hb,h2.then hb,h3.then hb,m,(hb.cell (qo h4)).trans h4⟩
theorem LW.at {w:World} (h:LW w) (q:ao w.heap.size w):LW q.val:=h.then q.below
theorem rV (ps:List (List UInt8)) (k:Nat) (h:k < ps.length):(dC ps)[k]?=some (sQ ⟨(ps[k]).toArray⟩):=by
 unfold dC; rw [List.getElem?_map,List.getElem?_eq_getElem h]; rfl
theorem hE (ps:List (List UInt8)) (rest:List Value) (k:Nat) (h:k < ps.length):(dC ps++rest)[k]?=some (sQ ⟨(ps[k]).toArray⟩):=by
 rw [List.getElem?_append_left (by rw [qT]; omega)]; exact rV ps k h
theorem nA (s:ByteArray) (b:UInt8) (w:World) (hs:s.size≤100000000) :
  Calls Tryz.prog 58 #[sQ s,.int .u8 b.toNat] w fun e w'=>∃ (g c:Nat) (rest:List Value),e=.returned (F (some ⟨g,0,none⟩) (aG b (bl s)).length c)∧ai w' g 9 (dC (aG b (bl s))++rest)∧w.heap.size≤g∧Below w.heap.size w w':=by
 refine (gG s b w hs).mono ?_
 rintro e w' ⟨A,c,rfl,ho,hb⟩
 obtain ⟨_,_,⟨h1,h2⟩ | ⟨g,rest,hA,hg,hL⟩⟩:=bP.of ho
 ·exact absurd (List.eq_nil_of_length_eq_zero h2) (jD b _ _)
 ·subst hA; exact ⟨g,c,rest,rfl,hL,hg,hb⟩
theorem lg {b:UInt8} {s:List UInt8} {n:Nat} (h:s.length≤n):∀ t ∈ aG b s,t.length≤n:=fun t ht=>by
 have:=kb s [] ht; simp at this; omega
theorem lh {b:UInt8} {s:List UInt8} {n:Nat} (h:s.length≤n):1≤(aG b s).length∧(aG b s).length≤n+1:=by
 have h1:=fi b s []
 have h3:0 < (cp b [] s).length:=List.length_pos_iff.2 (jD b s [])
 unfold aG; omega
theorem sk (v:ByteArray) (l:List UInt8):(v.toList == l)=decide (bl v=l):=by
 rw [ByteArray.toList_eq]; unfold bl
 by_cases h:v.data.toList=l <;> simp [h]
theorem gI {n lo hi:Int} : bI n lo hi=true ↔ lo≤n∧n≤hi:=by simp [bI]
theorem kC (n:Int) (w:World) (h0 : -1000000000≤n) (h1:n≤1000000000) :
  Calls Tryz.prog 71 #[O U n] w fun e w'=>e=.returned (sQ ⟨(Lib.itoa n).toArray⟩)∧Below w.heap.size w w':=by
 by_cases hn:n < 0
 ·have HC:Hid (∀ W:World,Calls Tryz.prog 71 #[O U (-n)] W fun e w'=>e=.returned (sQ ⟨(Lib.itoa (-n)).toArray⟩)∧Below W.heap.size W w'):=fun W=>cl (-n) W (by omega) (by omega)
  have HI:Hid (Lib.itoa n=45 :: Lib.itoa (-n)):=by
   unfold Lib.itoa Hid
   rw [if_pos hn,if_neg (by omega),show n.natAbs=(-n).toNat by omega]
  have hz:=cr (n:=-n) (by omega) (by omega)
  obtain ⟨t,ht⟩ : ∃ t:ByteArray,t=⟨(Lib.itoa (-n)).toArray⟩:=⟨_,rfl⟩
  rw [← ht] at HC hz
  have HT:=Lib.hid ht
  clear ht
  have hw:IntKind.i64.wrap (-n) = -n:=IntWalk.i64_in _ (by omega)
  go_enter Tryz.func71,Tryz.ntmps71
  go_wp2_with fail
  refine (HC.out _).mono ?_
  rintro e w1 ⟨rfl,hb⟩
  go_wp2_with fail
  go_ret
  refine ⟨?_,hb⟩
  rw [HI.out]
  congr 1
  rw [HT.out,ByteArray.mk_append_mk]; rfl
 ·exact cl n w (by omega) h1
def hH (s:ByteArray) (w:World) (e:Ending) (w' : World):Prop:=e=.returned (.tuple #[O U ((ce (bl s)).getD 0),.bool (ce (bl s)).isSome])∧Below w.heap.size w w'
theorem gm (a b:ByteArray):(a.toList == b.toList)=decide (bl a=bl b):=by
 rw [ByteArray.toList_eq a,ByteArray.toList_eq b,Bool.eq_iff_iff]; simp [bl]
def sL (s t:List UInt8) (neg:Bool):Prop:=(neg=true∧s=45 :: t∧1≤t.length) ∨ (neg=false∧s=t∧(s.head? ≠ some 45 ∨ s.length≤1))
theorem fN {s t:List UInt8} {neg:Bool} (h:sL s t neg) {n:Int} (hq:ce s=some n):1≤t.length∧t.length≤6∧Lib.decFrom 0 t=some n.natAbs∧n=(if neg=true then -(n.natAbs:Int) else (n.natAbs:Int)):=by
 obtain ⟨h6,e⟩:=gy hq
 rcases ry h6 e with ⟨h1,t',h2,h3,h4,h5⟩ | ⟨h1,h2,h3,h4,h5⟩
 ·rcases h with ⟨rfl,h7,h8⟩ | ⟨rfl,h7,h8⟩
  ·rw [h2] at h7; injection h7 with _ h7; subst h7
   exact ⟨h3,h4,h5,by simp; omega⟩
  ·exfalso
   rcases h8 with h8 | h8
   ·rw [h2] at h8; exact h8 rfl
   ·rw [h2] at h8; simp only [List.length_cons] at h8; omega
 ·rcases h with ⟨rfl,h7,h8⟩ | ⟨rfl,h7,h8⟩
  ·exfalso; rw [h7] at h2; exact h2 rfl
  ·subst h7; exact ⟨h3,h4,h5,by simp; omega⟩
set_option maxRecDepth 100000 in
set_option maxHeartbeats 4000000 in
theorem pO (s:ByteArray) (w:World) (hs:s.size≤1000000000) :
  Calls Tryz.prog 135 #[sQ s] w (hH s w):=by
 by_cases hsz:1 < s.size
 ·have hi:(1:Int) < (s.size:Int):=by omega
  by_cases h45:s[0].toNat=45
  ·have hT:sL (bl s) (bl (s.extract 1 s.size)) true:=by
    refine .inl ⟨rfl, ?_, ?_⟩
    ·have h1:=i7 (s:=s) (k:=0) (by omega)
     rw [bE,List.take_of_length_le (by rw [ap]; exact Nat.le_refl _)]
     have h2:s[0]=45:=UInt8.toNat_inj.1 h45
     rw [List.drop_zero,h2] at h1; exact h1
    ·rw [bE,List.length_drop,List.length_take,ap]; omega
   obtain ⟨t,ht⟩ : ∃ t,s.extract 1 s.size=t:=⟨_,rfl⟩
   have hts:t.size+1=s.size:=by rw [← ht,← ap,bE,List.length_drop,List.length_take,ap]; omega
   rw [ht] at hT
   have hq:((s[0].toNat:Int) == 45)=true:=by simp; omega
   have HT45:=Lib.hid h45
   clear h45
   go_enter Tryz.func135,Tryz.ntmps135
   go_upto_region 4 with fail
   clear ht
   by_cases hlen:1≤t.size∧t.size≤6
   ·obtain ⟨hl1,hl6⟩:=hlen
    have HT:=Lib.hid hT
    clear hT
    have i1:(1:Int)≤(t.size:Int):=by omega
    have i6:(t.size:Int)≤6:=by omega
    have hin:bI (t.size:Int) 1 6=true:=gI.2 ⟨i1,i6⟩
    go_wp2_with fail
    refine (aE _ _ _ _).mono ?_
    rintro e w' ⟨rfl,rfl⟩
    rw [hin]
    clear hin
    go_wp2_with fail
    go_loopw [5,6] (fun m i wr=>∃ (k acc:Nat),k≤t.size∧i=O U k∧m=O U acc∧acc < 1000000∧w=wr∧Hid (Lib.decFrom 0 ((bl t).take k)=some acc)) (fun _ i _=>t.size - (intOf i).toNat)
    case atStart=>exact ⟨0,0,Nat.zero_le _,rfl,rfl,by omega,rfl,by simp [Lib.decFrom,Hid]⟩
    case round =>
     obtain ⟨k,acc,hk,rfl,rfl,hacc,rfl,HD⟩:=hrel
     by_cases hlt:k < t.size
     ·by_cases hd:48≤t[k].toNat∧t[k].toNat≤57
      ·obtain ⟨hd1,hd2⟩:=hd
       have HST:Hid (Lib.decFrom 0 ((bl t).take (k+1))=some (acc * 10+(t[k].toNat - 48))) :=
        Lib.decFrom_take (bl t) k 0 acc t[k] (t[k].toNat - 48) HD.out (List.getElem?_eq_getElem (l:=bl t) hlt) (by unfold Lib.digitVal; rw [if_pos ⟨hd1,hd2⟩])
       have hacc2:acc * 10+(t[k].toNat - 48) < 1000000:=by
        have h1:=Lib.decFrom_lt _ _ _ HST.out
        have h2:((bl t).take (k+1)).length≤6:=by rw [List.length_take]; omega
        have h3:=Nat.pow_le_pow_right (show 0 < 10 by omega) h2
        omega
       have j1:(48:Int)≤(t[k].toNat:Int):=by omega
       have j2:(t[k].toNat:Int)≤57:=by omega
       have j3:IntKind.u8.wrap ((t[k].toNat:Int) - 48)=(t[k].toNat:Int) - 48:=IntWalk.u8_in _ (by omega)
       have j4:IntKind.i64.wrap ((t[k].toNat:Int) - 48)=(t[k].toNat:Int) - 48:=IntWalk.i64_in _ (by omega)
       have j5:IntKind.i64.wrap (10 * (acc:Int))=10 * (acc:Int):=IntWalk.i64_in _ (by omega)
       have j6:IntKind.i64.wrap (10 * (acc:Int)+((t[k].toNat:Int) - 48))=10 * (acc:Int)+((t[k].toNat:Int) - 48):=IntWalk.i64_in _ (by omega)
       clear HD hacc
       go_wp2_with fail
       go_roundw
       case rel=>exact ⟨k+1,acc * 10+(t[k].toNat - 48),by omega,by go_num,by go_num,hacc2,by first | trivial | rfl,HST⟩
       case measure=>simp [intOf] <;> omega
      ·have HZ:Hid (ce (bl s)=none):=by
        cases hq:ce (bl s) with
        | none=>rfl
        | some n =>
         exfalso
         obtain ⟨_,_,h3,_⟩:=fN HT.out hq
         obtain ⟨d,hdd⟩:=Lib.digit_of_decFrom _ _ _ h3 k t[k] (List.getElem?_eq_getElem (l:=bl t) hlt)
         have:=Lib.digitVal_eq hdd
         omega
       by_cases h48:t[k].toNat < 48
       ·have j1:(t[k].toNat:Int) < 48:=by omega
        clear hd
        go_wp2_with fail
        go_ret2
        exact ⟨by rw [HZ.out]; rfl,Below.refl _ _⟩
       ·have j1 : ¬ (t[k].toNat:Int) < 48:=by omega
        have j2:(57:Int) < (t[k].toNat:Int):=by omega
        clear hd h48
        go_wp2_with fail
        go_ret2
        exact ⟨by rw [HZ.out]; rfl,Below.refl _ _⟩
     ·obtain rfl:k=t.size:=by omega
      have HF:Hid (Lib.decFrom 0 (bl t)=some acc):=by
       have h1:=HD.out
       rw [List.take_of_length_le (by rw [ap]; exact Nat.le_refl _)] at h1; exact h1
      clear hlt HD
      have HNUM:Hid (∀ W:World,Calls Tryz.prog 71 #[O U (-(acc:Int))] W fun e w'=>e=.returned (sQ ⟨(Lib.itoa (-(acc:Int))).toArray⟩)∧Below W.heap.size W w'):=fun W=>kC (-(acc:Int)) W (by omega) (by omega)
      obtain ⟨nt,hnt⟩ : ∃ x:ByteArray,x=⟨(Lib.itoa (-(acc:Int))).toArray⟩:=⟨_,rfl⟩
      have hbn:bl nt=Lib.itoa (-(acc:Int)):=by rw [hnt,bM]
      rw [← hnt] at HNUM
      clear hnt
      have j7:IntKind.i64.wrap (-(acc:Int)) = -(acc:Int):=IntWalk.i64_in _ (by omega)
      have j8:(t.size:Int) < (s.size:Int):=by omega
      by_cases hs:Lib.itoa (-(acc:Int))=bl s
      ·have HZ:Hid (ce (bl s)=some (-(acc:Int))):=lu ⟨by omega,by omega⟩ hs
       have hb:(nt.toList == s.toList)=true:=by rw [gm,hbn,hs]; simp
       clear hs hbn
       go_wp2_with fail
       refine (HNUM.out _).mono ?_
       rintro e w1 ⟨rfl,hb1⟩
       go_wp2_with fail
       go_ret2
       exact ⟨by rw [HZ.out]; rfl,hb1⟩
      ·have HZ:Hid (ce (bl s)=none):=by
        cases hq:ce (bl s) with
        | none=>rfl
        | some n =>
         exfalso
         obtain ⟨_,_,h3,h4⟩:=fN HT.out hq
         rw [HF.out] at h3
         injection h3 with h3
         have h5:n = -(acc:Int):=by rw [h4]; simp; omega
         rw [← h5] at hs
         exact hs (gy hq).2
       have hb:(nt.toList == s.toList)=false:=by rw [gm,hbn]; simp [hs]
       clear hs hbn
       go_wp2_with fail
       refine (HNUM.out _).mono ?_
       rintro e w1 ⟨rfl,hb1⟩
       go_wp2_with fail
       go_ret2
       exact ⟨by rw [HZ.out]; rfl,hb1⟩
   ·have HZ:Hid (ce (bl s)=none):=by
     cases hq:ce (bl s) with
     | none=>rfl
     | some n =>
      exfalso
      obtain ⟨h1,h2,_⟩:=fN hT hq
      rw [ap] at h1 h2
      exact hlen ⟨h1,h2⟩
    have hin:bI (t.size:Int) 1 6=false:=by
     rw [← Bool.not_eq_true,gI]; omega
    clear hlen
    go_wp2_with fail
    refine (aE _ _ _ _).mono ?_
    rintro e w' ⟨rfl,rfl⟩
    rw [hin]
    clear hin
    go_wp2_with fail
    go_ret2
    exact ⟨by rw [HZ.out]; rfl,Below.refl _ _⟩
  ·have hT:sL (bl s) (bl s) false:=by
    refine .inr ⟨rfl,rfl,.inl fun h=>h45 ?_⟩
    have h1:=i7 (s:=s) (k:=0) (by omega)
    rw [List.drop_zero] at h1
    rw [h1] at h
    simp only [List.head?_cons,Option.some.injEq] at h
    rw [h]; rfl
   have hq:((s[0].toNat:Int) == 45)=false:=by rw [beq_eq_false_iff_ne]; omega
   clear h45
   go_enter Tryz.func135,Tryz.ntmps135
   go_upto_region 4 with fail
   by_cases hlen:1≤s.size∧s.size≤6
   ·obtain ⟨hl1,hl6⟩:=hlen
    have HT:=Lib.hid hT
    clear hT
    have i1:(1:Int)≤(s.size:Int):=by omega
    have i6:(s.size:Int)≤6:=by omega
    have hin:bI (s.size:Int) 1 6=true:=gI.2 ⟨i1,i6⟩
    go_wp2_with fail
    refine (aE _ _ _ _).mono ?_
    rintro e w' ⟨rfl,rfl⟩
    rw [hin]
    clear hin
    go_wp2_with fail
    go_loopw [5,6] (fun m i wr=>∃ (k acc:Nat),k≤s.size∧i=O U k∧m=O U acc∧acc < 1000000∧w=wr∧Hid (Lib.decFrom 0 ((bl s).take k)=some acc)) (fun _ i _=>s.size - (intOf i).toNat)
    case atStart=>exact ⟨0,0,Nat.zero_le _,rfl,rfl,by omega,rfl,by simp [Lib.decFrom,Hid]⟩
    case round =>
     obtain ⟨k,acc,hk,rfl,rfl,hacc,rfl,HD⟩:=hrel
     by_cases hlt:k < s.size
     ·by_cases hd:48≤s[k].toNat∧s[k].toNat≤57
      ·obtain ⟨hd1,hd2⟩:=hd
       have HST:Hid (Lib.decFrom 0 ((bl s).take (k+1))=some (acc * 10+(s[k].toNat - 48))) :=
        Lib.decFrom_take (bl s) k 0 acc s[k] (s[k].toNat - 48) HD.out (List.getElem?_eq_getElem (l:=bl s) hlt) (by unfold Lib.digitVal; rw [if_pos ⟨hd1,hd2⟩])
       have hacc2:acc * 10+(s[k].toNat - 48) < 1000000:=by
        have h1:=Lib.decFrom_lt _ _ _ HST.out
        have h2:((bl s).take (k+1)).length≤6:=by rw [List.length_take]; omega
        have h3:=Nat.pow_le_pow_right (show 0 < 10 by omega) h2
        omega
       have j1:(48:Int)≤(s[k].toNat:Int):=by omega
       have j2:(s[k].toNat:Int)≤57:=by omega
       have j3:IntKind.u8.wrap ((s[k].toNat:Int) - 48)=(s[k].toNat:Int) - 48:=IntWalk.u8_in _ (by omega)
       have j4:IntKind.i64.wrap ((s[k].toNat:Int) - 48)=(s[k].toNat:Int) - 48:=IntWalk.i64_in _ (by omega)
       have j5:IntKind.i64.wrap (10 * (acc:Int))=10 * (acc:Int):=IntWalk.i64_in _ (by omega)
       have j6:IntKind.i64.wrap (10 * (acc:Int)+((s[k].toNat:Int) - 48))=10 * (acc:Int)+((s[k].toNat:Int) - 48):=IntWalk.i64_in _ (by omega)
       clear HD hacc
       go_wp2_with fail
       go_roundw
       case rel=>exact ⟨k+1,acc * 10+(s[k].toNat - 48),by omega,by go_num,by go_num,hacc2,by first | trivial | rfl,HST⟩
       case measure=>simp [intOf] <;> omega
      ·have HZ:Hid (ce (bl s)=none):=by
        cases hq:ce (bl s) with
        | none=>rfl
        | some n =>
         exfalso
         obtain ⟨_,_,h3,_⟩:=fN HT.out hq
         obtain ⟨d,hdd⟩:=Lib.digit_of_decFrom _ _ _ h3 k s[k] (List.getElem?_eq_getElem (l:=bl s) hlt)
         have:=Lib.digitVal_eq hdd
         omega
       by_cases h48:s[k].toNat < 48
       ·have j1:(s[k].toNat:Int) < 48:=by omega
        clear hd
        go_wp2_with fail
        go_ret2
        exact ⟨by rw [HZ.out]; rfl,Below.refl _ _⟩
       ·have j1 : ¬ (s[k].toNat:Int) < 48:=by omega
        have j2:(57:Int) < (s[k].toNat:Int):=by omega
        clear hd h48
        go_wp2_with fail
        go_ret2
        exact ⟨by rw [HZ.out]; rfl,Below.refl _ _⟩
     ·obtain rfl:k=s.size:=by omega
      have HF:Hid (Lib.decFrom 0 (bl s)=some acc):=by
       have h1:=HD.out
       rw [List.take_of_length_le (by rw [ap]; exact Nat.le_refl _)] at h1; exact h1
      clear hlt HD
      have HNUM:Hid (∀ W:World,Calls Tryz.prog 71 #[O U ((acc:Int))] W fun e w'=>e=.returned (sQ ⟨(Lib.itoa ((acc:Int))).toArray⟩)∧Below W.heap.size W w'):=fun W=>kC ((acc:Int)) W (by omega) (by omega)
      obtain ⟨nt,hnt⟩ : ∃ x:ByteArray,x=⟨(Lib.itoa ((acc:Int))).toArray⟩:=⟨_,rfl⟩
      have hbn:bl nt=Lib.itoa ((acc:Int)):=by rw [hnt,bM]
      rw [← hnt] at HNUM
      clear hnt
      have j7:IntKind.i64.wrap (-(acc:Int)) = -(acc:Int):=IntWalk.i64_in _ (by omega)
      have j8:True:=trivial
      by_cases hs:Lib.itoa ((acc:Int))=bl s
      ·have HZ:Hid (ce (bl s)=some ((acc:Int))):=lu ⟨by omega,by omega⟩ hs
       have hb:(nt.toList == s.toList)=true:=by rw [gm,hbn,hs]; simp
       clear hs hbn
       go_wp2_with fail
       refine (HNUM.out _).mono ?_
       rintro e w1 ⟨rfl,hb1⟩
       go_wp2_with fail
       go_ret2
       exact ⟨by rw [HZ.out]; rfl,hb1⟩
      ·have HZ:Hid (ce (bl s)=none):=by
        cases hq:ce (bl s) with
        | none=>rfl
        | some n =>
         exfalso
         obtain ⟨_,_,h3,h4⟩:=fN HT.out hq
         rw [HF.out] at h3
         injection h3 with h3
         have h5:n=(acc:Int):=by rw [h4]; simp; omega
         rw [← h5] at hs
         exact hs (gy hq).2
       have hb:(nt.toList == s.toList)=false:=by rw [gm,hbn]; simp [hs]
       clear hs hbn
       go_wp2_with fail
       refine (HNUM.out _).mono ?_
       rintro e w1 ⟨rfl,hb1⟩
       go_wp2_with fail
       go_ret2
       exact ⟨by rw [HZ.out]; rfl,hb1⟩
   ·have HZ:Hid (ce (bl s)=none):=by
     cases hq:ce (bl s) with
     | none=>rfl
     | some n =>
      exfalso
      obtain ⟨h1,h2,_⟩:=fN hT hq
      rw [ap] at h1 h2
      exact hlen ⟨h1,h2⟩
    have hin:bI (s.size:Int) 1 6=false:=by
     rw [← Bool.not_eq_true,gI]; omega
    clear hlen
    go_wp2_with fail
    refine (aE _ _ _ _).mono ?_
    rintro e w' ⟨rfl,rfl⟩
    rw [hin]
    clear hin
    go_wp2_with fail
    go_ret2
    exact ⟨by rw [HZ.out]; rfl,Below.refl _ _⟩
 ·have hi : ¬ (1:Int) < (s.size:Int):=by omega
  have hT:sL (bl s) (bl s) false:=.inr ⟨rfl,rfl,.inr (by rw [ap]; omega)⟩
  go_enter Tryz.func135,Tryz.ntmps135
  go_upto_region 4 with fail
  by_cases hlen:1≤s.size∧s.size≤6
  ·obtain ⟨hl1,hl6⟩:=hlen
   have HT:=Lib.hid hT
   clear hT
   have i1:(1:Int)≤(s.size:Int):=by omega
   have i6:(s.size:Int)≤6:=by omega
   have hin:bI (s.size:Int) 1 6=true:=gI.2 ⟨i1,i6⟩
   go_wp2_with fail
   refine (aE _ _ _ _).mono ?_
   rintro e w' ⟨rfl,rfl⟩
   rw [hin]
   clear hin
   go_wp2_with fail
   go_loopw [5,6] (fun m i wr=>∃ (k acc:Nat),k≤s.size∧i=O U k∧m=O U acc∧acc < 1000000∧w=wr∧Hid (Lib.decFrom 0 ((bl s).take k)=some acc)) (fun _ i _=>s.size - (intOf i).toNat)
   case atStart=>exact ⟨0,0,Nat.zero_le _,rfl,rfl,by omega,rfl,by simp [Lib.decFrom,Hid]⟩
   case round =>
    obtain ⟨k,acc,hk,rfl,rfl,hacc,rfl,HD⟩:=hrel
    by_cases hlt:k < s.size
    ·by_cases hd:48≤s[k].toNat∧s[k].toNat≤57
     ·obtain ⟨hd1,hd2⟩:=hd
      have HST:Hid (Lib.decFrom 0 ((bl s).take (k+1))=some (acc * 10+(s[k].toNat - 48))) :=
       Lib.decFrom_take (bl s) k 0 acc s[k] (s[k].toNat - 48) HD.out (List.getElem?_eq_getElem (l:=bl s) hlt) (by unfold Lib.digitVal; rw [if_pos ⟨hd1,hd2⟩])
      have hacc2:acc * 10+(s[k].toNat - 48) < 1000000:=by
       have h1:=Lib.decFrom_lt _ _ _ HST.out
       have h2:((bl s).take (k+1)).length≤6:=by rw [List.length_take]; omega
       have h3:=Nat.pow_le_pow_right (show 0 < 10 by omega) h2
       omega
      have j1:(48:Int)≤(s[k].toNat:Int):=by omega
      have j2:(s[k].toNat:Int)≤57:=by omega
      have j3:IntKind.u8.wrap ((s[k].toNat:Int) - 48)=(s[k].toNat:Int) - 48:=IntWalk.u8_in _ (by omega)
      have j4:IntKind.i64.wrap ((s[k].toNat:Int) - 48)=(s[k].toNat:Int) - 48:=IntWalk.i64_in _ (by omega)
      have j5:IntKind.i64.wrap (10 * (acc:Int))=10 * (acc:Int):=IntWalk.i64_in _ (by omega)
      have j6:IntKind.i64.wrap (10 * (acc:Int)+((s[k].toNat:Int) - 48))=10 * (acc:Int)+((s[k].toNat:Int) - 48):=IntWalk.i64_in _ (by omega)
      clear HD hacc
      go_wp2_with fail
      go_roundw
      case rel=>exact ⟨k+1,acc * 10+(s[k].toNat - 48),by omega,by go_num,by go_num,hacc2,by first | trivial | rfl,HST⟩
      case measure=>simp [intOf] <;> omega
     ·have HZ:Hid (ce (bl s)=none):=by
       cases hq:ce (bl s) with
       | none=>rfl
       | some n =>
        exfalso
        obtain ⟨_,_,h3,_⟩:=fN HT.out hq
        obtain ⟨d,hdd⟩:=Lib.digit_of_decFrom _ _ _ h3 k s[k] (List.getElem?_eq_getElem (l:=bl s) hlt)
        have:=Lib.digitVal_eq hdd
        omega
      by_cases h48:s[k].toNat < 48
      ·have j1:(s[k].toNat:Int) < 48:=by omega
       clear hd
       go_wp2_with fail
       go_ret2
       exact ⟨by rw [HZ.out]; rfl,Below.refl _ _⟩
      ·have j1 : ¬ (s[k].toNat:Int) < 48:=by omega
       have j2:(57:Int) < (s[k].toNat:Int):=by omega
       clear hd h48
       go_wp2_with fail
       go_ret2
       exact ⟨by rw [HZ.out]; rfl,Below.refl _ _⟩
    ·obtain rfl:k=s.size:=by omega
     have HF:Hid (Lib.decFrom 0 (bl s)=some acc):=by
      have h1:=HD.out
      rw [List.take_of_length_le (by rw [ap]; exact Nat.le_refl _)] at h1; exact h1
     clear hlt HD
     have HNUM:Hid (∀ W:World,Calls Tryz.prog 71 #[O U ((acc:Int))] W fun e w'=>e=.returned (sQ ⟨(Lib.itoa ((acc:Int))).toArray⟩)∧Below W.heap.size W w'):=fun W=>kC ((acc:Int)) W (by omega) (by omega)
     obtain ⟨nt,hnt⟩ : ∃ x:ByteArray,x=⟨(Lib.itoa ((acc:Int))).toArray⟩:=⟨_,rfl⟩
     have hbn:bl nt=Lib.itoa ((acc:Int)):=by rw [hnt,bM]
     rw [← hnt] at HNUM
     clear hnt
     have j7:IntKind.i64.wrap (-(acc:Int)) = -(acc:Int):=IntWalk.i64_in _ (by omega)
     have j8:True:=trivial
     by_cases hs:Lib.itoa ((acc:Int))=bl s
     ·have HZ:Hid (ce (bl s)=some ((acc:Int))):=lu ⟨by omega,by omega⟩ hs
      have hb:(nt.toList == s.toList)=true:=by rw [gm,hbn,hs]; simp
      clear hs hbn
      go_wp2_with fail
      refine (HNUM.out _).mono ?_
      rintro e w1 ⟨rfl,hb1⟩
      go_wp2_with fail
      go_ret2
      exact ⟨by rw [HZ.out]; rfl,hb1⟩
     ·have HZ:Hid (ce (bl s)=none):=by
       cases hq:ce (bl s) with
       | none=>rfl
       | some n =>
        exfalso
        obtain ⟨_,_,h3,h4⟩:=fN HT.out hq
        rw [HF.out] at h3
        injection h3 with h3
        have h5:n=(acc:Int):=by rw [h4]; simp; omega
        rw [← h5] at hs
        exact hs (gy hq).2
      have hb:(nt.toList == s.toList)=false:=by rw [gm,hbn]; simp [hs]
      clear hs hbn
      go_wp2_with fail
      refine (HNUM.out _).mono ?_
      rintro e w1 ⟨rfl,hb1⟩
      go_wp2_with fail
      go_ret2
      exact ⟨by rw [HZ.out]; rfl,hb1⟩
  ·have HZ:Hid (ce (bl s)=none):=by
    cases hq:ce (bl s) with
    | none=>rfl
    | some n =>
     exfalso
     obtain ⟨h1,h2,_⟩:=fN hT hq
     rw [ap] at h1 h2
     exact hlen ⟨h1,h2⟩
   have hin:bI (s.size:Int) 1 6=false:=by
    rw [← Bool.not_eq_true,gI]; omega
   clear hlen
   go_wp2_with fail
   refine (aE _ _ _ _).mono ?_
   rintro e w' ⟨rfl,rfl⟩
   rw [hin]
   clear hin
   go_wp2_with fail
   go_ret2
   exact ⟨by rw [HZ.out]; rfl,Below.refl _ _⟩
end Go.Proofs.YtoeoimhemojdeaaGreatDoor
