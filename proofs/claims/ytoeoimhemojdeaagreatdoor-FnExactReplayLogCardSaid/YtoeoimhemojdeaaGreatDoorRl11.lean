/- Rl11: the texts ExR ExS, joined into one file. -/
import Derived.Test.YtoeoimhemojdeaaGreatDoorRl10

set_option linter.unusedVariables false
open Go.Value renaming int → O, slice → F, string → sQ
open Go.IntKind renaming i64 → U

namespace Go.Proofs.YtoeoimhemojdeaaGreatDoor
open Go.RowKit
theorem eE.con {w:World} {B:Nat} {x:aM} {l:Lg} {y:Oc} {v:Value} (h:eE w B x l y v):∃ X:aM,v=aL X l:=by
 rcases h with ⟨rfl,_⟩ | ⟨TA,tc,OA,oc,rfl,_,_⟩
 ·exact ⟨x,rfl⟩
 ·exact ⟨y.at TA tc OA oc,rfl⟩
def iA (w:World) (B g:Nat) (x:aM) (l:Lg) (y:Oc):Prop:=∃ X:aM,ai w g 42 [F X.TA X.t.length X.tc,F X.OA X.o.length X.oc,O U X.got,O U X.sold,O U X.missed,sQ l.D,sQ l.P,O U l.n]∧eE w B x l y (aL X l)
theorem iA.put {w:World} {B g:Nat} {x X:aM} {l:Lg} {y:Oc} {a0 a1 a2 a3 a4 a5 a6 a7:Value} (hL:ai w g 42 [a0,a1,a2,a3,a4,a5,a6,a7]) (h:eE w B x l y (aL X l)):iA ((((((((w.setCell ⟨g,0,none⟩ (F X.TA X.t.length X.tc)).setCell ⟨g,1,none⟩ (F X.OA X.o.length X.oc)).setCell ⟨g,2,none⟩ (O U X.got)).setCell ⟨g,3,none⟩ (O U X.sold)).setCell ⟨g,4,none⟩ (O U X.missed)).setCell ⟨g,5,none⟩ (sQ l.D)).setCell ⟨g,6,none⟩ (sQ l.P)).setCell ⟨g,7,none⟩ (O U l.n)) B g x l y:=by
 have gr:w.grownBy ((((((((w.setCell ⟨g,0,none⟩ (F X.TA X.t.length X.tc)).setCell ⟨g,1,none⟩ (F X.OA X.o.length X.oc)).setCell ⟨g,2,none⟩ (O U X.got)).setCell ⟨g,3,none⟩ (O U X.sold)).setCell ⟨g,4,none⟩ (O U X.missed)).setCell ⟨g,5,none⟩ (sQ l.D)).setCell ⟨g,6,none⟩ (sQ l.P)).setCell ⟨g,7,none⟩ (O U l.n)) (some g):=ac (g:=g) (i:=7) (u:=O U l.n) (ac (g:=g) (i:=6) (u:=sQ l.P) (ac (g:=g) (i:=5) (u:=sQ l.D) (ac (g:=g) (i:=4) (u:=O U X.missed) (ac (g:=g) (i:=3) (u:=O U X.sold) (ac (g:=g) (i:=2) (u:=O U X.got) (ac (g:=g) (i:=1) (u:=F X.OA X.o.length X.oc) (ac (g:=g) (i:=0) (u:=F X.TA X.t.length X.tc) (World.grownBy.refl w (some g)))))))))
 exact ⟨X,nz (hL) (F X.TA X.t.length X.tc) (F X.OA X.o.length X.oc) (O U X.got) (O U X.sold) (O U X.missed) (sQ l.D) (sQ l.P) (O U l.n),h.kept hL gr⟩
theorem eE.put {w:World} {B g:Nat} {x X:aM} {l:Lg} {y:Oc} {v:Value} {a0 a1 a2 a3 a4 a5 a6 a7:Value} (hL:ai w g 42 [a0,a1,a2,a3,a4,a5,a6,a7]) (h:eE w B x l y v):eE ((((((((w.setCell ⟨g,0,none⟩ (F X.TA X.t.length X.tc)).setCell ⟨g,1,none⟩ (F X.OA X.o.length X.oc)).setCell ⟨g,2,none⟩ (O U X.got)).setCell ⟨g,3,none⟩ (O U X.sold)).setCell ⟨g,4,none⟩ (O U X.missed)).setCell ⟨g,5,none⟩ (sQ l.D)).setCell ⟨g,6,none⟩ (sQ l.P)).setCell ⟨g,7,none⟩ (O U l.n)) B x l y v:=by
 have gr:w.grownBy ((((((((w.setCell ⟨g,0,none⟩ (F X.TA X.t.length X.tc)).setCell ⟨g,1,none⟩ (F X.OA X.o.length X.oc)).setCell ⟨g,2,none⟩ (O U X.got)).setCell ⟨g,3,none⟩ (O U X.sold)).setCell ⟨g,4,none⟩ (O U X.missed)).setCell ⟨g,5,none⟩ (sQ l.D)).setCell ⟨g,6,none⟩ (sQ l.P)).setCell ⟨g,7,none⟩ (O U l.n)) (some g):=ac (g:=g) (i:=7) (u:=O U l.n) (ac (g:=g) (i:=6) (u:=sQ l.P) (ac (g:=g) (i:=5) (u:=sQ l.D) (ac (g:=g) (i:=4) (u:=O U X.missed) (ac (g:=g) (i:=3) (u:=O U X.sold) (ac (g:=g) (i:=2) (u:=O U X.got) (ac (g:=g) (i:=1) (u:=F X.OA X.o.length X.oc) (ac (g:=g) (i:=0) (u:=F X.TA X.t.length X.tc) (World.grownBy.refl w (some g)))))))))
 exact h.kept hL gr
theorem kD (s:ByteArray) (w:World) (hs:s.size≤1000000000):Calls Tryz.prog 85 #[sQ s] w (hH s w):=by
 have hc:=fun W=>pO s W hs
 obtain ⟨v,hv⟩ : ∃ v,(ce (bl s)).getD 0=v:=⟨_,rfl⟩
 obtain ⟨b,hb⟩ : ∃ b,(ce (bl s)).isSome=b:=⟨_,rfl⟩
 unfold hH at hc ⊢
 rw [hv,hb] at hc ⊢
 clear hv hb
 go_enter Tryz.func85,Tryz.ntmps85
 go_wp2_with fail
 refine (hc _).mono ?_
 rintro e w1 ⟨rfl,hb⟩
 go_wp2
 go_ret2
 exact ⟨rfl,hb⟩
structure rW (w wx:World) (g8:Nat) (ps:List (List UInt8)) (rest:List Value) (v:Value) (m:List Int):Prop where
 bl:Below w.heap.size w wx
 ws:ai wx g8 9 (dC ps++rest)
 row:wx.ownsRow w.heap.size 3 1 v m.length (bv m)
theorem rW.then {w wx wy:World} {g8:Nat} {ps:List (List UInt8)} {rest:List Value} {v:Value} {m:List Int} (S:rW w wx g8 ps rest v m) (hb:Below wx.heap.size wx wy):rW w wy g8 ps rest v m :=
 ⟨ar S.bl hb,S.ws.below hb S.ws.lt,ab S.row hb⟩
theorem rW.push {w wx wz:World} {g8:Nat} {ps:List (List UInt8)} {rest:List Value} {v v' : Value} {m:List Int} {n:Int} (S:rW w wx g8 ps rest v m)
  (ho:wz.ownsRow w.heap.size 3 1 v' (m.length+1) (bv m++[O U n])) (hg:wx.grownBy wz v.ownBlock) (hb2:Below w.heap.size wx wz):rW w wz g8 ps rest v' (m++[n]) :=
 ⟨S.bl.trans hb2,S.ws.kept hg (dq S.row S.ws (by decide)),by simpa using ho⟩
theorem oM {x:aM} {line:ByteArray} (h:cZ ((aG 32 (bl line)).drop 1)=none):gX x line=none:=by unfold gX; rw [h]; rfl
theorem oN {x:aM} {line:ByteArray} {ns:List Int} (h:cZ ((aG 32 (bl line)).drop 1)=some ns):gX x line=bp x (wd (bl line) 0) ns:=by unfold gX; rw [h]; rfl
theorem mc {x:aM} {w0:ByteArray} {ns:List Int} (h:ns.length=0):bp x w0 ns=(cy x w0).map (x.c,·):=by
 match ns,h with
 | [],_=>rfl
theorem qp {x:aM} {w0:ByteArray} {ns:List Int} (h:ns.length=1) (h0:0 < ns.length):bp x w0 ns=(gi x w0 ns[0]).map (x.c,·):=by
 match ns,h with
 | [a],_=>rfl
theorem sl {x:aM} {w0:ByteArray} {ns:List Int} (h:ns.length=2) (h0:0 < ns.length) (h1:1 < ns.length):bp x w0 ns=(cc w0 ns[0] ns[1]).bind (bL x):=by
 match ns,h with
 | [a,b],_=>rfl
theorem rc {x:aM} {w0:ByteArray} {ns:List Int} (h:ns.length=3) (h0:0 < ns.length) (h1:1 < ns.length) (h2:2 < ns.length):bp x w0 ns=(cn w0 ns[0] ns[1] ns[2]).bind (bL x):=by
 match ns,h with
 | [a,b,c],_=>rfl
theorem oO {x:aM} {w0:ByteArray} {ns:List Int} (h:4≤ns.length):bp x w0 ns=none:=by
 match ns,h with
 | a :: b :: c :: d :: l,_=>rfl
theorem jX {x:aM} (R:Option ByteArray):eF x (R.map (x.c,·))=x.c:=by cases R <;> rfl
theorem oP {x:aM} (R:Option ByteArray):ix (R.map (x.c,·))=R.getD cd:=by cases R <;> rfl
set_option maxRecDepth 100000 in
set_option maxHeartbeats 4000000 in
theorem pP (x:aM) (l:Lg) (s:ByteArray) (a b:Int) (w:World) (h:aQ w w.heap.size x) (hcap:x.t.length≤x.tc) :
  Calls Tryz.prog 88 #[aL x l,sQ s,O U a,O U b] w (bf w x l ((cc s a b).bind (bL x))):=by
 have L1:=(ai.new w 42 #[F x.TA x.t.length x.tc,F x.OA x.o.length x.oc,O U x.got,O U x.sold,O U x.missed,sQ l.D,sQ l.P,O U l.n]).alloc (.cells #[F none 0 0,F none 0 0,O U 0,O U 0,O U 0,sQ ⟨#[]⟩,sQ ⟨#[]⟩,O U 0] 42)
 have L2:=ai.new1 w (.cells #[F x.TA x.t.length x.tc,F x.OA x.o.length x.oc,O U x.got,O U x.sold,O U x.missed,sQ l.D,sQ l.P,O U l.n] 42) 42 #[F none 0 0,F none 0 0,O U 0,O U 0,O U 0,sQ ⟨#[]⟩,sQ ⟨#[]⟩,O U 0]
 have b1:=(Below.refl w.heap.size w).alloc (Nat.le_refl _) (.cells #[F x.TA x.t.length x.tc,F x.OA x.o.length x.oc,O U x.got,O U x.sold,O U x.missed,sQ l.D,sQ l.P,O U l.n] 42)
 have b2:=b1.alloc b1.size (.cells #[F none 0 0,F none 0 0,O U 0,O U 0,O U 0,sQ ⟨#[]⟩,sQ ⟨#[]⟩,O U 0] 42)
 have hW:=h.up b2 (Nat.le_refl _)
 have hge:w.heap.size≤w.heap.size+1:=by omega
 clear b1
 by_cases h0:s=⟨#[103,101,116]⟩
 ·subst h0
  have HR:(cc ⟨#[103,101,116]⟩ a b).bind (bL x)=bL x ⟨1,a,0,b⟩:=by unfold cc; rw [if_pos rfl]; rfl
  rw [HR]
  clear HR
  have hc:=fun W hW=>eR x l ⟨1,a,0,b⟩ W hW hcap
  obtain ⟨R,hR⟩ : ∃ R,bL x ⟨1,a,0,b⟩=R:=⟨_,rfl⟩
  rw [hR] at hc ⊢
  clear hR
  obtain ⟨T,hT⟩ : ∃ T,ix R=T:=⟨_,rfl⟩
  unfold bf at hc
  rw [hT] at hc
  go_enter Tryz.func88,Tryz.ntmps88
  go_upto_region 3 with fail
  generalize ((w.alloc (.cells #[F x.TA x.t.length x.tc,F x.OA x.o.length x.oc,O U x.got,O U x.sold,O U x.missed,sQ l.D,sQ l.P,O U l.n] 42)).alloc (.cells #[F none 0 0,F none 0 0,O U 0,O U 0,O U 0,sQ ⟨#[]⟩,sQ ⟨#[]⟩,O U 0] 42))=W at L1 L2 b2 hW ⊢
  obtain ⟨c0,c1,c2,c3,c4,c5,c6,c7⟩:=cells8 L1
  go_wp2_with fail
  refine (hc W hW).mono ?_
  rintro e W1 ⟨v,rfl,hv,hb⟩
  obtain ⟨X,rfl⟩:=hv.con
  have K2:=L2.below hb L2.lt
  have b3:=b2.trans (hb.mono (b2).size)
  have hv2:=hv.lower (b2).size
  obtain ⟨z0,z1,z2,z3,z4,z5,z6,z7⟩:=cells8 K2
  obtain ⟨f0,f1,f2,f3,f4,f5,f6,f7⟩:=frz8 K2
  have hN8:=Lib.hid (eE.put (X:=X) K2 hv2)
  have hD8:=Lib.hid (dN (g:=w.heap.size+1) (b3) hge (F X.TA X.t.length X.tc) (F X.OA X.o.length X.oc) (O U X.got) (O U X.sold) (O U X.missed) (sQ l.D) (sQ l.P) (O U l.n))
  clear K2 b3 hv hv2 hb c0 c1 c2 c3 c4 c5 c6 c7
  go_wp2_with fail
  refine bodyPost_ret (v:=.tuple #[aL X l,sQ T]) (by simp [results,Tryz.results88,go_sem, *]) rfl (bf.mk hT hN8.out hD8.out)
 have f0:(s.toList == [103,101,116])=false:=bC h0
 by_cases h1:s=⟨#[109,105,115,115]⟩
 ·subst h1
  have HR:(cc ⟨#[109,105,115,115]⟩ a b).bind (bL x)=bL x ⟨5,a,b,0⟩:=by unfold cc; rw [if_neg (by decide),if_pos rfl]; rfl
  rw [HR]
  clear HR
  have hc:=fun W hW=>eR x l ⟨5,a,b,0⟩ W hW hcap
  obtain ⟨R,hR⟩ : ∃ R,bL x ⟨5,a,b,0⟩=R:=⟨_,rfl⟩
  rw [hR] at hc ⊢
  clear hR
  obtain ⟨T,hT⟩ : ∃ T,ix R=T:=⟨_,rfl⟩
  unfold bf at hc
  rw [hT] at hc
  go_enter Tryz.func88,Tryz.ntmps88
  go_upto_region 5 with fail
  generalize ((w.alloc (.cells #[F x.TA x.t.length x.tc,F x.OA x.o.length x.oc,O U x.got,O U x.sold,O U x.missed,sQ l.D,sQ l.P,O U l.n] 42)).alloc (.cells #[F none 0 0,F none 0 0,O U 0,O U 0,O U 0,sQ ⟨#[]⟩,sQ ⟨#[]⟩,O U 0] 42))=W at L1 L2 b2 hW ⊢
  obtain ⟨c0,c1,c2,c3,c4,c5,c6,c7⟩:=cells8 L1
  go_wp2_with fail
  refine (hc W hW).mono ?_
  rintro e W1 ⟨v,rfl,hv,hb⟩
  obtain ⟨X,rfl⟩:=hv.con
  have K2:=L2.below hb L2.lt
  have b3:=b2.trans (hb.mono (b2).size)
  have hv2:=hv.lower (b2).size
  obtain ⟨z0,z1,z2,z3,z4,z5,z6,z7⟩:=cells8 K2
  obtain ⟨f0,f1,f2,f3,f4,f5,f6,f7⟩:=frz8 K2
  have hN8:=Lib.hid (eE.put (X:=X) K2 hv2)
  have hD8:=Lib.hid (dN (g:=w.heap.size+1) (b3) hge (F X.TA X.t.length X.tc) (F X.OA X.o.length X.oc) (O U X.got) (O U X.sold) (O U X.missed) (sQ l.D) (sQ l.P) (O U l.n))
  clear K2 b3 hv hv2 hb c0 c1 c2 c3 c4 c5 c6 c7
  go_wp2_with fail
  refine bodyPost_ret (v:=.tuple #[aL X l,sQ T]) (by simp [results,Tryz.results88,go_sem, *]) rfl (bf.mk hT hN8.out hD8.out)
 have f1:(s.toList == [109,105,115,115])=false:=bC h1
 have HR:Hid ((cc s a b).bind (bL x)=none):=by unfold Hid cc; rw [if_neg h0,if_neg h1]; rfl
 clear h0 h1
 go_enter Tryz.func88,Tryz.ntmps88
 go_upto_region 6 with fail
 generalize ((w.alloc (.cells #[F x.TA x.t.length x.tc,F x.OA x.o.length x.oc,O U x.got,O U x.sold,O U x.missed,sQ l.D,sQ l.P,O U l.n] 42)).alloc (.cells #[F none 0 0,F none 0 0,O U 0,O U 0,O U 0,sQ ⟨#[]⟩,sQ ⟨#[]⟩,O U 0] 42))=W at L1 L2 b2 hW ⊢
 obtain ⟨c0,c1,c2,c3,c4,c5,c6,c7⟩:=cells8 L1
 obtain ⟨z0,z1,z2,z3,z4,z5,z6,z7⟩:=cells8 L2
 obtain ⟨f0,f1,f2,f3,f4,f5,f6,f7⟩:=frz8 L2
 have bz:=Lib.hid (dN (g:=w.heap.size+1) (b2) hge (F x.TA x.t.length x.tc) (F x.OA x.o.length x.oc) (O U x.got) (O U x.sold) (O U x.missed) (sQ l.D) (sQ l.P) (O U l.n))
 clear L1 L2 b2 hW
 go_wp2
 refine bodyPost_ret (v:=.tuple #[aL x l,sQ ⟨#[63]⟩]) (by simp [results,Tryz.results88,go_sem, *]) rfl (by rw [HR.out]; exact ⟨_,rfl,.inl ⟨rfl,rfl⟩,bz.out⟩)
theorem ja {m:List Int} {rest:List Value} {k:Nat} (h:k < m.length):(bv m++rest)[k]?=some (O U m[k]):=by
 rw [List.getElem?_append_left (by simpa using h),List.getElem?_map,List.getElem?_eq_getElem h]; rfl
set_option maxRecDepth 100000 in
set_option maxHeartbeats 8000000 in
theorem pQ (x:aM) (l:Lg) (line:ByteArray) (w:World) (h:aQ w w.heap.size x) (hcap:x.t.length≤x.tc) (G:bn x) (hs:line.size≤1000) :
  Calls Tryz.prog 47 #[aL x l,sQ line] w (bf w x l (gX x line)):=by
 have L1:=(ai.new w 42 #[F x.TA x.t.length x.tc,F x.OA x.o.length x.oc,O U x.got,O U x.sold,O U x.missed,sQ l.D,sQ l.P,O U l.n]).alloc (.cells #[F none 0 0,F none 0 0,O U 0,O U 0,O U 0,sQ ⟨#[]⟩,sQ ⟨#[]⟩,O U 0] 42)
 have L2:=ai.new1 w (.cells #[F x.TA x.t.length x.tc,F x.OA x.o.length x.oc,O U x.got,O U x.sold,O U x.missed,sQ l.D,sQ l.P,O U l.n] 42) 42 #[F none 0 0,F none 0 0,O U 0,O U 0,O U 0,sQ ⟨#[]⟩,sQ ⟨#[]⟩,O U 0]
 have b1:=(Below.refl w.heap.size w).alloc (Nat.le_refl _) (.cells #[F x.TA x.t.length x.tc,F x.OA x.o.length x.oc,O U x.got,O U x.sold,O U x.missed,sQ l.D,sQ l.P,O U l.n] 42)
 have b2:=b1.alloc b1.size (.cells #[F none 0 0,F none 0 0,O U 0,O U 0,O U 0,sQ ⟨#[]⟩,sQ ⟨#[]⟩,O U 0] 42)
 have hW:=h.up b2 (Nat.le_refl _)
 have hge:w.heap.size≤w.heap.size+1:=by omega
 clear b1
 have hSP:=fun W=>nA line 32 W (by omega)
 have hpc:=lh (b:=32) (n:=1000) (s:=bl line) (by rw [ap]; exact hs)
 have hpm:=lg (b:=32) (n:=1000) (s:=bl line) (by rw [ap]; exact hs)
 have HC0:=Lib.hid (fun h=>oM (x:=x) (line:=line) h)
 have HC1:=Lib.hid (fun ns h=>oN (x:=x) (line:=line) (ns:=ns) h)
 have HWD:Hid (wd (bl line) 0=⟨((aG 32 (bl line)).getD 0 []).toArray⟩):=rfl
 have HW1:=Lib.hid (sB (l:=bl line))
 obtain ⟨ps,hps⟩ : ∃ ps,aG 32 (bl line)=ps:=⟨_,rfl⟩
 simp only [hps] at hSP hpc hpm HC0 HC1 HWD HW1
 have HPT:=Lib.hid hpm
 obtain ⟨hp1,hp2⟩:=hpc
 obtain ⟨R,hR⟩ : ∃ R,gX x line=R:=⟨_,rfl⟩
 rw [hR] at HC0 HC1 ⊢
 obtain ⟨w0,hw0⟩ : ∃ w0,wd (bl line) 0=w0:=⟨_,rfl⟩
 rw [hw0] at HC1 HWD HW1
 clear hps hpm hR hw0
 go_enter Tryz.func47,Tryz.ntmps47
 go_wp2_with fail
 generalize ((w.alloc (.cells #[F x.TA x.t.length x.tc,F x.OA x.o.length x.oc,O U x.got,O U x.sold,O U x.missed,sQ l.D,sQ l.P,O U l.n] 42)).alloc (.cells #[F none 0 0,F none 0 0,O U 0,O U 0,O U 0,sQ ⟨#[]⟩,sQ ⟨#[]⟩,O U 0] 42))=W at L1 L2 b2 hW ⊢
 generalize w.heap.size+1=gr at L2 hge ⊢
 refine (hSP W).mono ?_
 rintro e w3 ⟨g8,c8,rest,rfl,L8,hg8,hb3⟩
 have ha:=(Below.refl w3.heap.size w3).alloc (Nat.le_refl _) (.cells #[] 3)
 have hO:(w3.alloc (.cells #[] 3)).ownsRow W.heap.size 3 1 (F (some ⟨w3.heap.size,0,none⟩) 0 0) 0 []:=cz (ai.new w3 3 #[]) hb3.size
 have S3:=Lib.hid (rW.mk (w:=W) (v:=F (some ⟨w3.heap.size,0,none⟩) 0 0) (m:=[]) (ar hb3 ha) (L8.below ha L8.lt) hO)
 clear hb3 ha hO hSP L8
 have hp1' : (1:Int)≤(ps.length:Int):=by omega
 go_wp2_with fail
 generalize w3.alloc (.cells #[] 3)=W3 at S3 ⊢
 generalize w3.heap.size=g3 at S3 ⊢
 go_loopw [7,8,9,10] (fun o i _ _ wr=>∃ (k:Nat) (A:Option Addr) (c:Nat) (m:List Int),1≤k∧k≤ps.length∧i=O U k∧o=F A m.length c∧m.length≤k∧Hid (rW W wr g8 ps rest (F A m.length c) m)∧Hid (fp m (ps.drop k)=cZ (ps.drop 1))) (fun _ i _ _ _=>ps.length - (intOf i).toNat)
 case atStart=>exact ⟨1,some ⟨g3,0,none⟩,0,[],Nat.le_refl _,hp1,rfl,rfl,Nat.zero_le _,S3,kX _⟩
 case round =>
  clear S3
  obtain ⟨k,A,c,m,hk1,hk,rfl,rfl,hmk,HS,HRN⟩:=hrel
  by_cases hlt:k < ps.length
  ·have hlt2:(k:Int) < (ps.length:Int):=by omega
   have c0:wr.cell? ⟨g8,k,none⟩=some (sQ ⟨(ps[k]'hlt).toArray⟩):=by
    rw [HS.out.ws.cell]; exact hE ps _ _ hlt
   have ht:=HPT.out (ps[k]'hlt) (List.getElem_mem _)
   obtain ⟨t,hte⟩ : ∃ t:ByteArray,t=⟨(ps[k]'hlt).toArray⟩:=⟨_,rfl⟩
   have hbt:bl t=ps[k]'hlt:=by rw [hte,bM]
   rw [← hte] at c0
   have hzt:t.size≤1000:=by rw [← ap,hbt]; exact ht
   clear hte ht
   have HN0:Hid (ce (bl t)=none→cZ (ps.drop 1)=none):=fun hn=>by
    rw [← HRN.out]; exact kY hlt (by rw [← hbt]; exact hn)
   have HN1:Hid (∀ n,ce (bl t)=some n→fp (m++[n]) (ps.drop (k+1))=cZ (ps.drop 1)):=fun n hn=>by
    rw [← HRN.out]; exact (kZ hlt (by rw [← hbt]; exact hn)).symm
   have hpi:=fun W=>kD t W (by omega)
   unfold hH at hpi
   obtain ⟨q,hq⟩ : ∃ q,ce (bl t)=q:=⟨_,rfl⟩
   rw [hq] at HN0 HN1 hpi
   clear hq hbt
   cases q with
   | none =>
    have HE:=Lib.hid (HC0.out (HN0.out rfl))
    simp only [Option.isSome_none,Option.getD_none] at hpi
    go_wp2_with fail
    refine (hpi _).mono ?_
    rintro e w4 ⟨rfl,hb4⟩
    have b5:=ar HS.out.bl hb4
    have K1:=L1.below b5 L1.lt
    have K2:=L2.below b5 L2.lt
    have b6:=b2.trans (b5.mono b2.size)
    obtain ⟨c0,c1,c2,c3,c4,c5,c6,c7⟩:=cells8 K1
    obtain ⟨z0,z1,z2,z3,z4,z5,z6,z7⟩:=cells8 K2
    obtain ⟨f0,f1,f2,f3,f4,f5,f6,f7⟩:=frz8 K2
    have bz:=Lib.hid (dN (g:=gr) (b6) hge (F x.TA x.t.length x.tc) (F x.OA x.o.length x.oc) (O U x.got) (O U x.sold) (O U x.missed) (sQ l.D) (sQ l.P) (O U l.n))
    clear K1 K2 L1 L2 b6 b5 hb4 HS HRN
    go_wp2_with fail
    refine bodyPost_ret (v:=.tuple #[aL x l,sQ ⟨#[63]⟩]) (by simp [results,Tryz.results47,go_sem, *]) rfl (by rw [HE.out]; exact ⟨_,rfl,.inl ⟨rfl,rfl⟩,bz.out⟩)
   | some n =>
    have HN:=Lib.hid (HN1.out n rfl)
    simp only [Option.isSome_some,Option.getD_some] at hpi
    go_wp2_with fail
    refine (hpi _).mono ?_
    rintro e w4 ⟨rfl,hb4⟩
    have HS4:=Lib.hid (HS.out.then hb4)
    have HRW:=Lib.hid HS4.out.row
    have hsz:W.heap.size≤w4.heap.size:=HS4.out.bl.size
    go_wp2_with (at_builtin; refine bU (w0:=w4) rfl _ _ 100 rfl 3 _ 1 8 Tryz.underlying100 gF rfl (by omega) (by omega) W.heap.size _ _ _ rfl HRW #[O U n] 1 _ rfl (by first | rfl | exact Array.size_push _) rfl (by simp [Value.oneCell']) (by omega) hsz rfl rfl rfl rfl ?_; intro v6 w6 HO6 hg6 hb6)
    have HNEW:=Lib.hid (HS4.out.push (n:=n) HO6.out hg6 hb6)
    obtain ⟨A6,c6,hv6⟩:=aw HO6.out
    subst hv6
    go_wp2
    go_roundw
    case rel=>exact ⟨k+1,A6,c6,m++[n],by omega,by omega,by go_num,by simp,by simp; omega,by rw [Hid]; simpa using HNEW.out,HN.out⟩
    case measure=>simp [intOf]; omega
  ·have hlt2 : ¬ (k:Int) < (ps.length:Int):=by omega
   have HNS:Hid (cZ (ps.drop 1)=some m):=by
    have h1:=HRN.out; rw [List.drop_eq_nil_of_le (by omega),l9] at h1; exact h1.symm
   have HE:=Lib.hid (HC1.out m HNS.out)
   have b5:=HS.out.bl
   have K1:=L1.below b5 L1.lt
   have K2:=L2.below b5 L2.lt
   have b6:=b2.trans (b5.mono b2.size)
   have hW6:=hW.then b5
   have LW8:=HS.out.ws
   have hrow:=HS.out.row
   have c80:wr.cell? ⟨g8,0,none⟩=some (sQ w0):=by
    rw [LW8.cell,HWD.out,dQ (by omega:0 < ps.length)]; exact hE ps _ _ (by omega)
   have HLEN:Hid (ps.length=m.length+1):=by
    have:=mS HNS.out; rw [List.length_drop] at this; rw [Hid]; omega
   clear HS HRN L1 L2 b2 b5 hW HC0 HC1 HWD hlt
   clear HPT
   have hps0:(0:Int) < (ps.length:Int):=by omega
   have hpsN:0 < ps.length:=by omega
   by_cases e0:m.length=0
   ·have z0:((m.length:Int) == 0)=true:=by rw [e0]; rfl
    have z1:((m.length:Int) == 1)=false:=beq_false_of_ne (by omega)
    have z2:((m.length:Int) == 2)=false:=beq_false_of_ne (by omega)
    have z3:((m.length:Int) == 3)=false:=beq_false_of_ne (by omega)
    have hwl:w0=line:=by
     rw [HW1.out (by have:=HLEN.out; omega)]; exact (dd rfl).symm
    have HR1:=HE.out
    rw [mc e0,hwl] at HR1
    have HT0:ix R=(cy x line).getD cd:=by rw [HR1]; exact oP _
    have HO:Hid (eF x R=x.c):=by rw [HR1]; exact jX _
    have hc:=fun W hR=>oK x line W hR G
    obtain ⟨T,hT⟩ : ∃ T,(cy x line).getD cd=T:=⟨_,rfl⟩
    rw [hT] at hc HT0
    have HT:=Lib.hid HT0
    clear hT HT0 HR1 hwl HE HW1 HLEN HNS
    go_wp2_with fail
    refine an (Sw 5 (fun W9=>Below wr.heap.size wr W9) (fun W9=>Below w.heap.size w W9∧ai W9 gr 42 [F x.TA x.t.length x.tc,F x.OA x.o.length x.oc,O U x.got,O U x.sold,O U x.missed,sQ l.D,sQ l.P,O U l.n])) (fun i w1 w2=>i ∉ [5]→Below w1.heap.size w1 w2) (by kernel_rfl) (by kernel_rfl) (by kernel_rfl) (Sw.start (Below.refl _ _).drew) ?_
    simp only [ax,Act.put,List.setIfInBounds_toArray,List.set_cons_zero,List.set_cons_succ,Nat.zero_add,Nat.reduceAdd]
    apply aa
    case h1 =>
     intro vs L9 w9 hG9 hC9 hB K9 hK9
     replace hC9:=sb hC9 hG9
     have q0:w9.cell? ⟨w.heap.size,0,none⟩=some (F x.TA x.t.length x.tc):=(K1.below hC9 K1.lt).cell 0
     have q1:w9.cell? ⟨w.heap.size,1,none⟩=some (F x.OA x.o.length x.oc):=(K1.below hC9 K1.lt).cell 1
     have q2:w9.cell? ⟨w.heap.size,2,none⟩=some (O U x.got):=(K1.below hC9 K1.lt).cell 2
     have q3:w9.cell? ⟨w.heap.size,3,none⟩=some (O U x.sold):=(K1.below hC9 K1.lt).cell 3
     have q4:w9.cell? ⟨w.heap.size,4,none⟩=some (O U x.missed):=(K1.below hC9 K1.lt).cell 4
     have q5:w9.cell? ⟨w.heap.size,5,none⟩=some (sQ l.D):=(K1.below hC9 K1.lt).cell 5
     have q6:w9.cell? ⟨w.heap.size,6,none⟩=some (sQ l.P):=(K1.below hC9 K1.lt).cell 6
     have q7:w9.cell? ⟨w.heap.size,7,none⟩=some (O U l.n):=(K1.below hC9 K1.lt).cell 7
     simp only [Act.put,sA,s0,s1] at hK9
     go_simp
     exact hK9 _ _ rfl (sy hG9 hC9) bR
    apply aa
    case h1 =>
     intro vs L9 w9 hG9 hC9 hB K9 hK9
     replace hC9:=sb hC9 hG9
     simp only [Act.put,sA,s0,s1] at hK9
     go_simp
     exact hK9 _ _ rfl (sy hG9 hC9) bR
    apply aa
    case h1 =>
     intro vs L9 w9 hG9 hC9 hB K9 hK9
     replace hC9:=sb hC9 hG9
     have d1:=fe hB 1
     simp only [d1] at hK9 ⊢
     have q0:w9.cell? ⟨w.heap.size,0,none⟩=some (F x.TA x.t.length x.tc):=(K1.below hC9 K1.lt).cell 0
     have q1:w9.cell? ⟨w.heap.size,1,none⟩=some (F x.OA x.o.length x.oc):=(K1.below hC9 K1.lt).cell 1
     have q2:w9.cell? ⟨w.heap.size,2,none⟩=some (O U x.got):=(K1.below hC9 K1.lt).cell 2
     have q3:w9.cell? ⟨w.heap.size,3,none⟩=some (O U x.sold):=(K1.below hC9 K1.lt).cell 3
     have q4:w9.cell? ⟨w.heap.size,4,none⟩=some (O U x.missed):=(K1.below hC9 K1.lt).cell 4
     simp only [Act.put,sA,s0,s1] at hK9
     go_simp
     exact hK9 _ _ rfl (sy hG9 hC9) bR
    apply aa
    case h1 =>
     intro vs L9 w9 hG9 hC9 hB K9 hK9
     replace hC9:=sb hC9 hG9
     simp only [Act.put,sA,s0,s1] at hK9
     go_simp
     exact hK9 _ _ rfl (sy hG9 hC9) bR
    refine aa (sQ T) (fun vs L9 w9 hG9 hC9 hB K9 hK9=>?_) ?_
    next =>
     replace hC9:=sb hC9 hG9
     have d2:=fe hB 2
     have d3:=fe hB 3
     simp only [d2,d3] at hK9 ⊢
     go_simp
     refine (hc w9 (hW6.then hC9)).mono ?_
     rintro en w8 ⟨rfl,hb8⟩
     exact hK9 _ _ rfl (Sw.stay hG9 (by kernel_rfl) (by decide) (hC9.trans (hb8.mono hC9.size))) (fun _=>hb8)
    refine aa (undef) (fun vs L9 w9 hG9 hC9 hB K9 hK9=>?_) ?_
    next =>
     replace hC9:=hC9.here hG9
     have d0:=fe hB 0
     simp only [d0] at hK9 ⊢
     have Lr:=K2.below hC9 K2.lt
     obtain ⟨z0,z1,z2,z3,z4,z5,z6,z7⟩:=cells8 Lr
     obtain ⟨f0,f1,f2,f3,f4,f5,f6,f7⟩:=frz8 Lr
     have hN8:=Lib.hid (show ai _ gr 42 [F x.TA x.t.length x.tc,F x.OA x.o.length x.oc,O U x.got,O U x.sold,O U x.missed,sQ l.D,sQ l.P,O U l.n] from nz (Lr) (F x.TA x.t.length x.tc) (F x.OA x.o.length x.oc) (O U x.got) (O U x.sold) (O U x.missed) (sQ l.D) (sQ l.P) (O U l.n))
     have hD8:=Lib.hid (dN (g:=gr) ((b6).trans (hC9.mono (b6).size)) hge (F x.TA x.t.length x.tc) (F x.OA x.o.length x.oc) (O U x.got) (O U x.sold) (O U x.missed) (sQ l.D) (sQ l.P) (O U l.n))
     clear Lr
     go_simp
     exact hK9 _ _ rfl (Sw.turn ⟨hD8.out,hN8.out⟩) (fun hq=>(hq (by decide)).elim)
    apply aa
    case h1 =>
     intro vs L9 w9 hG9 hC9 hB K9 hK9
     replace hC9:=hC9.after hG9 (by kernel_rfl)
     have d4:=fe hB 4
     simp only [d4] at hK9 ⊢
     simp only [Act.put,sA,s0,s1] at hK9
     go_simp
     exact hK9 _ _ rfl (Sw.on hG9 (by kernel_rfl) hC9) bR
    refine az fun vs L9 w9 hL9 hC9 hB=>?_
    replace hC9:=hC9.done hL9 (by decide)
    have dl:=ag.eq (hB 6 _ rfl rfl (by decide))
    simp only [dl]
    clear hB dl
    obtain ⟨hD,hN⟩:=hC9
    obtain ⟨k0,k1,k2,k3,k4,k5,k6,k7⟩:=cells8 hN
    clear hN
    go_wp2
    refine bodyPost_ret (v:=.tuple #[aL x l,sQ T]) (by simp [results,Tryz.results47,go_sem, *]) rfl (bf.mk HT.out (.inl ⟨rfl,HO.out⟩) hD)
   by_cases e1:m.length=1
   ·have z0:((m.length:Int) == 0)=false:=beq_false_of_ne (by omega)
    have z1:((m.length:Int) == 1)=true:=by rw [e1]; rfl
    have z2:((m.length:Int) == 2)=false:=beq_false_of_ne (by omega)
    have z3:((m.length:Int) == 3)=false:=beq_false_of_ne (by omega)
    have hm0:(0:Int) < (m.length:Int):=by omega
    have hn0:0 < m.length:=by omega
    obtain ⟨gN,cN,rN,hv,_,LN,_⟩:=bJ hrow (by omega)
    injection hv with ea eb ec
    subst ea; subst ec
    clear eb
    have d0n:wr.cell? ⟨gN,0,none⟩=some (O U (m[0]'hn0)):=by rw [LN.cell]; exact ja hn0
    obtain ⟨a0,ha0⟩ : ∃ a,m[0]'hn0=a:=⟨_,rfl⟩
    rw [ha0] at d0n
    have HR1:=HE.out
    rw [qp e1 hn0,ha0] at HR1
    have HT0:ix R=(gi x w0 a0).getD cd:=by rw [HR1]; exact oP _
    have HO:Hid (eF x R=x.c):=by rw [HR1]; exact jX _
    have hc:=fun W hR=>pM x l w0 a0 W hR G
    obtain ⟨T,hT⟩ : ∃ T,(gi x w0 a0).getD cd=T:=⟨_,rfl⟩
    rw [hT] at hc HT0
    have HT:=Lib.hid HT0
    clear hT HT0 HR1 HE HW1 HLEN HNS ha0
    go_wp2_with fail
    refine an (Sw 10 (fun W9=>Below wr.heap.size wr W9) (fun W9=>Below w.heap.size w W9∧ai W9 gr 42 [F x.TA x.t.length x.tc,F x.OA x.o.length x.oc,O U x.got,O U x.sold,O U x.missed,sQ l.D,sQ l.P,O U l.n])) (fun i w1 w2=>i ∉ [10]→Below w1.heap.size w1 w2) (by kernel_rfl) (by kernel_rfl) (by kernel_rfl) (Sw.start (Below.refl _ _).drew) ?_
    simp only [ax,Act.put,List.setIfInBounds_toArray,List.set_cons_zero,List.set_cons_succ,Nat.zero_add,Nat.reduceAdd]
    apply aa
    case h1 =>
     intro vs L9 w9 hG9 hC9 hB K9 hK9
     replace hC9:=sb hC9 hG9
     have q0:w9.cell? ⟨w.heap.size,0,none⟩=some (F x.TA x.t.length x.tc):=(K1.below hC9 K1.lt).cell 0
     have q1:w9.cell? ⟨w.heap.size,1,none⟩=some (F x.OA x.o.length x.oc):=(K1.below hC9 K1.lt).cell 1
     have q2:w9.cell? ⟨w.heap.size,2,none⟩=some (O U x.got):=(K1.below hC9 K1.lt).cell 2
     have q3:w9.cell? ⟨w.heap.size,3,none⟩=some (O U x.sold):=(K1.below hC9 K1.lt).cell 3
     have q4:w9.cell? ⟨w.heap.size,4,none⟩=some (O U x.missed):=(K1.below hC9 K1.lt).cell 4
     have q5:w9.cell? ⟨w.heap.size,5,none⟩=some (sQ l.D):=(K1.below hC9 K1.lt).cell 5
     have q6:w9.cell? ⟨w.heap.size,6,none⟩=some (sQ l.P):=(K1.below hC9 K1.lt).cell 6
     have q7:w9.cell? ⟨w.heap.size,7,none⟩=some (O U l.n):=(K1.below hC9 K1.lt).cell 7
     simp only [Act.put,sA,s0,s1] at hK9
     go_simp
     exact hK9 _ _ rfl (sy hG9 hC9) bR
    apply aa
    case h1 =>
     intro vs L9 w9 hG9 hC9 hB K9 hK9
     replace hC9:=sb hC9 hG9
     simp only [Act.put,sA,s0,s1] at hK9
     go_simp
     exact hK9 _ _ rfl (sy hG9 hC9) bR
    apply aa
    case h1 =>
     intro vs L9 w9 hG9 hC9 hB K9 hK9
     replace hC9:=sb hC9 hG9
     have d1:=fe hB 1
     simp only [d1] at hK9 ⊢
     simp only [Act.put,sA,s0,s1] at hK9
     go_simp
     exact hK9 _ _ rfl (sy hG9 hC9) bR
    apply aa
    case h1 =>
     intro vs L9 w9 hG9 hC9 hB K9 hK9
     replace hC9:=sb hC9 hG9
     have d2:=fe hB 2
     simp only [d2] at hK9 ⊢
     have q0:w9.cell? ⟨g8,0,none⟩=some (sQ w0):=(hC9.cell LW8.lt).trans c80
     simp only [Act.put,sA,s0,s1] at hK9
     go_simp
     exact hK9 _ _ rfl (sy hG9 hC9) bR
    apply aa
    case h1 =>
     intro vs L9 w9 hG9 hC9 hB K9 hK9
     replace hC9:=sb hC9 hG9
     simp only [Act.put,sA,s0,s1] at hK9
     go_simp
     exact hK9 _ _ rfl (sy hG9 hC9) bR
    apply aa
    case h1 =>
     intro vs L9 w9 hG9 hC9 hB K9 hK9
     replace hC9:=sb hC9 hG9
     have d4:=fe hB 4
     simp only [d4] at hK9 ⊢
     simp only [Act.put,sA,s0,s1] at hK9
     go_simp
     exact hK9 _ _ rfl (sy hG9 hC9) bR
    apply aa
    case h1 =>
     intro vs L9 w9 hG9 hC9 hB K9 hK9
     replace hC9:=sb hC9 hG9
     have d5:=fe hB 5
     simp only [d5] at hK9 ⊢
     have q0:w9.cell? ⟨gN,0,none⟩=some (O U a0):=(hC9.cell LN.lt).trans d0n
     simp only [Act.put,sA,s0,s1] at hK9
     go_simp
     exact hK9 _ _ rfl (sy hG9 hC9) bR
    refine aa (.tuple #[.agg #[F x.TA x.t.length x.tc,F x.OA x.o.length x.oc,O U x.got,O U x.sold,O U x.missed,sQ l.D,sQ l.P,O U l.n],sQ T]) (fun vs L9 w9 hG9 hC9 hB K9 hK9=>?_) ?_
    next =>
     replace hC9:=sb hC9 hG9
     have d0:=fe hB 0
     have d3:=fe hB 3
     have d6:=fe hB 6
     simp only [d0,d3,d6] at hK9 ⊢
     go_simp
     refine (hc w9 (hW6.then hC9)).mono ?_
     rintro en w8 ⟨rfl,hb8⟩
     exact hK9 _ _ rfl (Sw.stay hG9 (by kernel_rfl) (by decide) (hC9.trans (hb8.mono hC9.size))) (fun _=>hb8)
    apply aa
    case h1 =>
     intro vs L9 w9 hG9 hC9 hB K9 hK9
     replace hC9:=sb hC9 hG9
     have d7:=fe hB 7
     simp only [d7] at hK9 ⊢
     simp only [Act.put,sA,s0,s1] at hK9
     go_simp
     exact hK9 _ _ rfl (sy hG9 hC9) bR
    apply aa
    case h1 =>
     intro vs L9 w9 hG9 hC9 hB K9 hK9
     replace hC9:=sb hC9 hG9
     have d7:=fe hB 7
     simp only [d7] at hK9 ⊢
     simp only [Act.put,sA,s0,s1] at hK9
     go_simp
     exact hK9 _ _ rfl (sy hG9 hC9) bR
    refine aa (undef) (fun vs L9 w9 hG9 hC9 hB K9 hK9=>?_) ?_
    next =>
     replace hC9:=hC9.here hG9
     have d8:=fe hB 8
     simp only [d8] at hK9 ⊢
     have Lr:=K2.below hC9 K2.lt
     obtain ⟨z0,z1,z2,z3,z4,z5,z6,z7⟩:=cells8 Lr
     obtain ⟨f0,f1,f2,f3,f4,f5,f6,f7⟩:=frz8 Lr
     have hN8:=Lib.hid (show ai _ gr 42 [F x.TA x.t.length x.tc,F x.OA x.o.length x.oc,O U x.got,O U x.sold,O U x.missed,sQ l.D,sQ l.P,O U l.n] from nz (Lr) (F x.TA x.t.length x.tc) (F x.OA x.o.length x.oc) (O U x.got) (O U x.sold) (O U x.missed) (sQ l.D) (sQ l.P) (O U l.n))
     have hD8:=Lib.hid (dN (g:=gr) ((b6).trans (hC9.mono (b6).size)) hge (F x.TA x.t.length x.tc) (F x.OA x.o.length x.oc) (O U x.got) (O U x.sold) (O U x.missed) (sQ l.D) (sQ l.P) (O U l.n))
     clear Lr
     go_simp
     exact hK9 _ _ rfl (Sw.turn ⟨hD8.out,hN8.out⟩) (fun hq=>(hq (by decide)).elim)
    apply aa
    case h1 =>
     intro vs L9 w9 hG9 hC9 hB K9 hK9
     replace hC9:=hC9.after hG9 (by kernel_rfl)
     have d9:=fe hB 9
     simp only [d9] at hK9 ⊢
     simp only [Act.put,sA,s0,s1] at hK9
     go_simp
     exact hK9 _ _ rfl (Sw.on hG9 (by kernel_rfl) hC9) bR
    refine az fun vs L9 w9 hL9 hC9 hB=>?_
    replace hC9:=hC9.done hL9 (by decide)
    have dl:=ag.eq (hB 11 _ rfl rfl (by decide))
    simp only [dl]
    clear hB dl
    obtain ⟨hD,hN⟩:=hC9
    obtain ⟨k0,k1,k2,k3,k4,k5,k6,k7⟩:=cells8 hN
    clear hN
    go_wp2
    refine bodyPost_ret (v:=.tuple #[aL x l,sQ T]) (by simp [results,Tryz.results47,go_sem, *]) rfl (bf.mk HT.out (.inl ⟨rfl,HO.out⟩) hD)
   by_cases e2:m.length=2
   ·have z0:((m.length:Int) == 0)=false:=beq_false_of_ne (by omega)
    have z1:((m.length:Int) == 1)=false:=beq_false_of_ne (by omega)
    have z2:((m.length:Int) == 2)=true:=by rw [e2]; rfl
    have z3:((m.length:Int) == 3)=false:=beq_false_of_ne (by omega)
    have hm0:(0:Int) < (m.length:Int):=by omega
    have hn0:0 < m.length:=by omega
    have hm1:(1:Int) < (m.length:Int):=by omega
    have hn1:1 < m.length:=by omega
    obtain ⟨gN,cN,rN,hv,_,LN,_⟩:=bJ hrow (by omega)
    injection hv with ea eb ec
    subst ea; subst ec
    clear eb
    have d0n:wr.cell? ⟨gN,0,none⟩=some (O U (m[0]'hn0)):=by rw [LN.cell]; exact ja hn0
    have d1n:wr.cell? ⟨gN,1,none⟩=some (O U (m[1]'hn1)):=by rw [LN.cell]; exact ja hn1
    obtain ⟨a0,ha0⟩ : ∃ a,m[0]'hn0=a:=⟨_,rfl⟩
    rw [ha0] at d0n
    obtain ⟨a1,ha1⟩ : ∃ a,m[1]'hn1=a:=⟨_,rfl⟩
    rw [ha1] at d1n
    have HR1:=HE.out
    rw [sl e2 hn0 hn1,ha0,ha1] at HR1
    have hc:=fun W hR=>pP x l w0 a0 a1 W hR hcap
    rw [← HR1] at hc
    obtain ⟨T,hT⟩ : ∃ T,ix R=T:=⟨_,rfl⟩
    unfold bf at hc
    rw [hT] at hc
    have HT:=Lib.hid hT
    clear hT HR1 HE HW1 HLEN HNS ha0 ha1
    go_wp2_with fail
    refine an (Sw 13 (fun W9=>Below wr.heap.size wr W9) (fun W9=>Below w.heap.size w W9∧iA W9 w.heap.size gr x l (eF x R))) (fun i w1 w2=>i ∉ [13]→Below w1.heap.size w1 w2) (by kernel_rfl) (by kernel_rfl) (by kernel_rfl) (Sw.start (Below.refl _ _).drew) ?_
    simp only [ax,Act.put,List.setIfInBounds_toArray,List.set_cons_zero,List.set_cons_succ,Nat.zero_add,Nat.reduceAdd]
    apply aa
    case h1 =>
     intro vs L9 w9 hG9 hC9 hB K9 hK9
     replace hC9:=sb hC9 hG9
     have q0:w9.cell? ⟨w.heap.size,0,none⟩=some (F x.TA x.t.length x.tc):=(K1.below hC9 K1.lt).cell 0
     have q1:w9.cell? ⟨w.heap.size,1,none⟩=some (F x.OA x.o.length x.oc):=(K1.below hC9 K1.lt).cell 1
     have q2:w9.cell? ⟨w.heap.size,2,none⟩=some (O U x.got):=(K1.below hC9 K1.lt).cell 2
     have q3:w9.cell? ⟨w.heap.size,3,none⟩=some (O U x.sold):=(K1.below hC9 K1.lt).cell 3
     have q4:w9.cell? ⟨w.heap.size,4,none⟩=some (O U x.missed):=(K1.below hC9 K1.lt).cell 4
     have q5:w9.cell? ⟨w.heap.size,5,none⟩=some (sQ l.D):=(K1.below hC9 K1.lt).cell 5
     have q6:w9.cell? ⟨w.heap.size,6,none⟩=some (sQ l.P):=(K1.below hC9 K1.lt).cell 6
     have q7:w9.cell? ⟨w.heap.size,7,none⟩=some (O U l.n):=(K1.below hC9 K1.lt).cell 7
     simp only [Act.put,sA,s0,s1] at hK9
     go_simp
     exact hK9 _ _ rfl (sy hG9 hC9) bR
    apply aa
    case h1 =>
     intro vs L9 w9 hG9 hC9 hB K9 hK9
     replace hC9:=sb hC9 hG9
     simp only [Act.put,sA,s0,s1] at hK9
     go_simp
     exact hK9 _ _ rfl (sy hG9 hC9) bR
    apply aa
    case h1 =>
     intro vs L9 w9 hG9 hC9 hB K9 hK9
     replace hC9:=sb hC9 hG9
     have d1:=fe hB 1
     simp only [d1] at hK9 ⊢
     simp only [Act.put,sA,s0,s1] at hK9
     go_simp
     exact hK9 _ _ rfl (sy hG9 hC9) bR
    apply aa
    case h1 =>
     intro vs L9 w9 hG9 hC9 hB K9 hK9
     replace hC9:=sb hC9 hG9
     have d2:=fe hB 2
     simp only [d2] at hK9 ⊢
     have q0:w9.cell? ⟨g8,0,none⟩=some (sQ w0):=(hC9.cell LW8.lt).trans c80
     simp only [Act.put,sA,s0,s1] at hK9
     go_simp
     exact hK9 _ _ rfl (sy hG9 hC9) bR
    apply aa
    case h1 =>
     intro vs L9 w9 hG9 hC9 hB K9 hK9
     replace hC9:=sb hC9 hG9
     simp only [Act.put,sA,s0,s1] at hK9
     go_simp
     exact hK9 _ _ rfl (sy hG9 hC9) bR
    apply aa
    case h1 =>
     intro vs L9 w9 hG9 hC9 hB K9 hK9
     replace hC9:=sb hC9 hG9
     have d4:=fe hB 4
     simp only [d4] at hK9 ⊢
     simp only [Act.put,sA,s0,s1] at hK9
     go_simp
     exact hK9 _ _ rfl (sy hG9 hC9) bR
    apply aa
    case h1 =>
     intro vs L9 w9 hG9 hC9 hB K9 hK9
     replace hC9:=sb hC9 hG9
     have d5:=fe hB 5
     simp only [d5] at hK9 ⊢
     have q0:w9.cell? ⟨gN,0,none⟩=some (O U a0):=(hC9.cell LN.lt).trans d0n
     simp only [Act.put,sA,s0,s1] at hK9
     go_simp
     exact hK9 _ _ rfl (sy hG9 hC9) bR
    apply aa
    case h1 =>
     intro vs L9 w9 hG9 hC9 hB K9 hK9
     replace hC9:=sb hC9 hG9
     simp only [Act.put,sA,s0,s1] at hK9
     go_simp
     exact hK9 _ _ rfl (sy hG9 hC9) bR
    apply aa
    case h1 =>
     intro vs L9 w9 hG9 hC9 hB K9 hK9
     replace hC9:=sb hC9 hG9
     have d7:=fe hB 7
     simp only [d7] at hK9 ⊢
     simp only [Act.put,sA,s0,s1] at hK9
     go_simp
     exact hK9 _ _ rfl (sy hG9 hC9) bR
    apply aa
    case h1 =>
     intro vs L9 w9 hG9 hC9 hB K9 hK9
     replace hC9:=sb hC9 hG9
     have d8:=fe hB 8
     simp only [d8] at hK9 ⊢
     have q0:w9.cell? ⟨gN,1,none⟩=some (O U a1):=(hC9.cell LN.lt).trans d1n
     simp only [Act.put,sA,s0,s1] at hK9
     go_simp
     exact hK9 _ _ rfl (sy hG9 hC9) bR
    refine ak [13] (fun v w9=>∃ X:aM,v=.tuple #[aL X l,sQ T]∧eE w9 w.heap.size x l (eF x R) (aL X l)) ?_ (fun vs L9 w9 hG9 hC9 hB K9 hK9=>?_) ?_
    next =>
     intro i9 hi9 hb9 ha9 v w1 w2 hv hT9
     have hb:=hT9 (fun hm=>by
      simp only [List.mem_cons,List.not_mem_nil,or_false] at hm hb9
      subst hm
      ·exact hb9 (by simp))
     obtain ⟨X,q1,q2⟩:=hv
     exact ⟨X,q1,q2.below hb⟩
    next =>
     replace hC9:=sb hC9 hG9
     have d0:=fe hB 0
     have d3:=fe hB 3
     have d6:=fe hB 6
     have d9:=fe hB 9
     simp only [d0,d3,d6,d9] at hK9 ⊢
     simp only [Act.put,sA,s0,s1] at hK9
     go_simp
     refine (hc w9 (hW6.then hC9)).mono ?_
     rintro en w8 ⟨v,rfl,hv,hb8⟩
     obtain ⟨X,rfl⟩:=hv.con
     exact hK9 _ _ _ rfl ⟨X,rfl,hv.lower (Nat.le_trans b6.size hC9.size)⟩ (Sw.stay hG9 (by kernel_rfl) (by decide) (hC9.trans (hb8.mono hC9.size))) (fun _=>hb8)
    refine ak [13] (fun v w9=>∃ X:aM,v=aL X l∧eE w9 w.heap.size x l (eF x R) (aL X l)) ?_ (fun vs L9 w9 hG9 hC9 hB K9 hK9=>?_) ?_
    next =>
     intro i9 hi9 hb9 ha9 v w1 w2 hv hT9
     have hb:=hT9 (fun hm=>by
      simp only [List.mem_cons,List.not_mem_nil,or_false] at hm hb9
      subst hm
      ·exact hb9 (by simp))
     obtain ⟨X,q1,q2⟩:=hv
     exact ⟨X,q1,q2.below hb⟩
    next =>
     replace hC9:=sb hC9 hG9
     simp only [Act.put,sA,s0,s1] at hK9
     obtain ⟨X,e0,hq⟩:=fs hB 10
     simp only [e0] at hK9 ⊢
     go_simp
     exact hK9 _ _ _ rfl ⟨X,rfl,hq⟩ (sy hG9 hC9) bR
    refine aa (sQ T) (fun vs L9 w9 hG9 hC9 hB K9 hK9=>?_) ?_
    next =>
     replace hC9:=sb hC9 hG9
     obtain ⟨X,e0,hq⟩:=fs hB 10
     simp only [e0] at hK9 ⊢
     go_simp
     exact hK9 _ _ rfl (sy hG9 hC9) bR
    refine aa (undef) (fun vs L9 w9 hG9 hC9 hB K9 hK9=>?_) ?_
    next =>
     replace hC9:=hC9.here hG9
     obtain ⟨X,e0,hq⟩:=fs hB 11
     simp only [e0] at hK9 ⊢
     have Lr:=K2.below hC9 K2.lt
     obtain ⟨z0,z1,z2,z3,z4,z5,z6,z7⟩:=cells8 Lr
     obtain ⟨f0,f1,f2,f3,f4,f5,f6,f7⟩:=frz8 Lr
     have hN8:=Lib.hid (iA.put (X:=X) Lr hq)
     have hD8:=Lib.hid (dN (g:=gr) (b6.trans (hC9.mono b6.size)) hge (F X.TA X.t.length X.tc) (F X.OA X.o.length X.oc) (O U X.got) (O U X.sold) (O U X.missed) (sQ l.D) (sQ l.P) (O U l.n))
     clear Lr hq
     go_simp
     exact hK9 _ _ rfl (Sw.turn ⟨hD8.out,hN8.out⟩) (fun hq=>(hq (by decide)).elim)
    apply aa
    case h1 =>
     intro vs L9 w9 hG9 hC9 hB K9 hK9
     replace hC9:=hC9.after hG9 (by kernel_rfl)
     have d12:=fe hB 12
     simp only [d12] at hK9 ⊢
     simp only [Act.put,sA,s0,s1] at hK9
     go_simp
     exact hK9 _ _ rfl (Sw.on hG9 (by kernel_rfl) hC9) bR
    refine az fun vs L9 w9 hL9 hC9 hB=>?_
    replace hC9:=hC9.done hL9 (by decide)
    have dl:=ag.eq (hB 14 _ rfl rfl (by decide))
    simp only [dl]
    clear hB dl
    obtain ⟨hD,X,hN,hV⟩:=hC9
    obtain ⟨k0,k1,k2,k3,k4,k5,k6,k7⟩:=cells8 hN
    clear hN
    go_wp2
    refine bodyPost_ret (v:=.tuple #[aL X l,sQ T]) (by simp [results,Tryz.results47,go_sem, *]) rfl (bf.mk HT.out hV hD)
   by_cases e3:m.length=3
   ·have z0:((m.length:Int) == 0)=false:=beq_false_of_ne (by omega)
    have z1:((m.length:Int) == 1)=false:=beq_false_of_ne (by omega)
    have z2:((m.length:Int) == 2)=false:=beq_false_of_ne (by omega)
    have z3:((m.length:Int) == 3)=true:=by rw [e3]; rfl
    have hm0:(0:Int) < (m.length:Int):=by omega
    have hn0:0 < m.length:=by omega
    have hm1:(1:Int) < (m.length:Int):=by omega
    have hn1:1 < m.length:=by omega
    have hm2:(2:Int) < (m.length:Int):=by omega
    have hn2:2 < m.length:=by omega
    obtain ⟨gN,cN,rN,hv,_,LN,_⟩:=bJ hrow (by omega)
    injection hv with ea eb ec
    subst ea; subst ec
    clear eb
    have d0n:wr.cell? ⟨gN,0,none⟩=some (O U (m[0]'hn0)):=by rw [LN.cell]; exact ja hn0
    have d1n:wr.cell? ⟨gN,1,none⟩=some (O U (m[1]'hn1)):=by rw [LN.cell]; exact ja hn1
    have d2n:wr.cell? ⟨gN,2,none⟩=some (O U (m[2]'hn2)):=by rw [LN.cell]; exact ja hn2
    obtain ⟨a0,ha0⟩ : ∃ a,m[0]'hn0=a:=⟨_,rfl⟩
    rw [ha0] at d0n
    obtain ⟨a1,ha1⟩ : ∃ a,m[1]'hn1=a:=⟨_,rfl⟩
    rw [ha1] at d1n
    obtain ⟨a2,ha2⟩ : ∃ a,m[2]'hn2=a:=⟨_,rfl⟩
    rw [ha2] at d2n
    have HR1:=HE.out
    rw [rc e3 hn0 hn1 hn2,ha0,ha1,ha2] at HR1
    clear ha0 ha1 ha2 HE HW1 HLEN HNS
    by_cases h0:w0=⟨#[115,104,111,119]⟩
    ·subst h0
     have HR2:R=bL x ⟨2,a0,a1,a2⟩:=by rw [HR1]; unfold cn; rw [if_pos rfl]; rfl
     have hc:=fun W hR=>eR x l ⟨2,a0,a1,a2⟩ W hR hcap
     rw [← HR2] at hc
     obtain ⟨T,hT⟩ : ∃ T,ix R=T:=⟨_,rfl⟩
     unfold bf at hc
     rw [hT] at hc
     have HT:=Lib.hid hT
     clear hT HR1 HR2
     go_wp2_with fail
     refine an (Sw 14 (fun W9=>Below wr.heap.size wr W9) (fun W9=>Below w.heap.size w W9∧iA W9 w.heap.size gr x l (eF x R))) (fun i w1 w2=>i ∉ [14]→Below w1.heap.size w1 w2) (by kernel_rfl) (by kernel_rfl) (by kernel_rfl) (Sw.start (Below.refl _ _).drew) ?_
     simp only [ax,Act.put,List.setIfInBounds_toArray,List.set_cons_zero,List.set_cons_succ,Nat.zero_add,Nat.reduceAdd]
     apply aa
     case h1 =>
      intro vs L9 w9 hG9 hC9 hB K9 hK9
      replace hC9:=sb hC9 hG9
      have q0:w9.cell? ⟨w.heap.size,0,none⟩=some (F x.TA x.t.length x.tc):=(K1.below hC9 K1.lt).cell 0
      have q1:w9.cell? ⟨w.heap.size,1,none⟩=some (F x.OA x.o.length x.oc):=(K1.below hC9 K1.lt).cell 1
      have q2:w9.cell? ⟨w.heap.size,2,none⟩=some (O U x.got):=(K1.below hC9 K1.lt).cell 2
      have q3:w9.cell? ⟨w.heap.size,3,none⟩=some (O U x.sold):=(K1.below hC9 K1.lt).cell 3
      have q4:w9.cell? ⟨w.heap.size,4,none⟩=some (O U x.missed):=(K1.below hC9 K1.lt).cell 4
      have q5:w9.cell? ⟨w.heap.size,5,none⟩=some (sQ l.D):=(K1.below hC9 K1.lt).cell 5
      have q6:w9.cell? ⟨w.heap.size,6,none⟩=some (sQ l.P):=(K1.below hC9 K1.lt).cell 6
      have q7:w9.cell? ⟨w.heap.size,7,none⟩=some (O U l.n):=(K1.below hC9 K1.lt).cell 7
      simp only [Act.put,sA,s0,s1] at hK9
      go_simp
      exact hK9 _ _ rfl (sy hG9 hC9) bR
     apply aa
     case h1 =>
      intro vs L9 w9 hG9 hC9 hB K9 hK9
      replace hC9:=sb hC9 hG9
      simp only [Act.put,sA,s0,s1] at hK9
      go_simp
      exact hK9 _ _ rfl (sy hG9 hC9) bR
     apply aa
     case h1 =>
      intro vs L9 w9 hG9 hC9 hB K9 hK9
      replace hC9:=sb hC9 hG9
      have d1:=fe hB 1
      simp only [d1] at hK9 ⊢
      simp only [Act.put,sA,s0,s1] at hK9
      go_simp
      exact hK9 _ _ rfl (sy hG9 hC9) bR
     apply aa
     case h1 =>
      intro vs L9 w9 hG9 hC9 hB K9 hK9
      replace hC9:=sb hC9 hG9
      have d2:=fe hB 2
      simp only [d2] at hK9 ⊢
      have q0:w9.cell? ⟨gN,0,none⟩=some (O U a0):=(hC9.cell LN.lt).trans d0n
      simp only [Act.put,sA,s0,s1] at hK9
      go_simp
      exact hK9 _ _ rfl (sy hG9 hC9) bR
     apply aa
     case h1 =>
      intro vs L9 w9 hG9 hC9 hB K9 hK9
      replace hC9:=sb hC9 hG9
      simp only [Act.put,sA,s0,s1] at hK9
      go_simp
      exact hK9 _ _ rfl (sy hG9 hC9) bR
     apply aa
     case h1 =>
      intro vs L9 w9 hG9 hC9 hB K9 hK9
      replace hC9:=sb hC9 hG9
      have d4:=fe hB 4
      simp only [d4] at hK9 ⊢
      simp only [Act.put,sA,s0,s1] at hK9
      go_simp
      exact hK9 _ _ rfl (sy hG9 hC9) bR
     apply aa
     case h1 =>
      intro vs L9 w9 hG9 hC9 hB K9 hK9
      replace hC9:=sb hC9 hG9
      have d5:=fe hB 5
      simp only [d5] at hK9 ⊢
      have q0:w9.cell? ⟨gN,1,none⟩=some (O U a1):=(hC9.cell LN.lt).trans d1n
      simp only [Act.put,sA,s0,s1] at hK9
      go_simp
      exact hK9 _ _ rfl (sy hG9 hC9) bR
     apply aa
     case h1 =>
      intro vs L9 w9 hG9 hC9 hB K9 hK9
      replace hC9:=sb hC9 hG9
      simp only [Act.put,sA,s0,s1] at hK9
      go_simp
      exact hK9 _ _ rfl (sy hG9 hC9) bR
     apply aa
     case h1 =>
      intro vs L9 w9 hG9 hC9 hB K9 hK9
      replace hC9:=sb hC9 hG9
      have d7:=fe hB 7
      simp only [d7] at hK9 ⊢
      simp only [Act.put,sA,s0,s1] at hK9
      go_simp
      exact hK9 _ _ rfl (sy hG9 hC9) bR
     apply aa
     case h1 =>
      intro vs L9 w9 hG9 hC9 hB K9 hK9
      replace hC9:=sb hC9 hG9
      have d8:=fe hB 8
      simp only [d8] at hK9 ⊢
      have q0:w9.cell? ⟨gN,2,none⟩=some (O U a2):=(hC9.cell LN.lt).trans d2n
      simp only [Act.put,sA,s0,s1] at hK9
      go_simp
      exact hK9 _ _ rfl (sy hG9 hC9) bR
     apply aa
     case h1 =>
      intro vs L9 w9 hG9 hC9 hB K9 hK9
      replace hC9:=sb hC9 hG9
      have d3:=fe hB 3
      have d6:=fe hB 6
      have d9:=fe hB 9
      simp only [d3,d6,d9] at hK9 ⊢
      simp only [Act.put,sA,s0,s1] at hK9
      go_simp
      exact hK9 _ _ rfl (sy hG9 hC9) bR
     refine ak [14] (fun v w9=>∃ X:aM,v=.tuple #[aL X l,sQ T]∧eE w9 w.heap.size x l (eF x R) (aL X l)) ?_ (fun vs L9 w9 hG9 hC9 hB K9 hK9=>?_) ?_
     next =>
      intro i9 hi9 hb9 ha9 v w1 w2 hv hT9
      have hb:=hT9 (fun hm=>by
       simp only [List.mem_cons,List.not_mem_nil,or_false] at hm hb9
       subst hm
       ·exact hb9 (by simp))
      obtain ⟨X,q1,q2⟩:=hv
      exact ⟨X,q1,q2.below hb⟩
     next =>
      replace hC9:=sb hC9 hG9
      have d0:=fe hB 0
      have d10:=fe hB 10
      simp only [d0,d10] at hK9 ⊢
      simp only [Act.put,sA,s0,s1] at hK9
      go_simp
      refine (hc w9 (hW6.then hC9)).mono ?_
      rintro en w8 ⟨v,rfl,hv,hb8⟩
      obtain ⟨X,rfl⟩:=hv.con
      exact hK9 _ _ _ rfl ⟨X,rfl,hv.lower (Nat.le_trans b6.size hC9.size)⟩ (Sw.stay hG9 (by kernel_rfl) (by decide) (hC9.trans (hb8.mono hC9.size))) (fun _=>hb8)
     refine ak [14] (fun v w9=>∃ X:aM,v=aL X l∧eE w9 w.heap.size x l (eF x R) (aL X l)) ?_ (fun vs L9 w9 hG9 hC9 hB K9 hK9=>?_) ?_
     next =>
      intro i9 hi9 hb9 ha9 v w1 w2 hv hT9
      have hb:=hT9 (fun hm=>by
       simp only [List.mem_cons,List.not_mem_nil,or_false] at hm hb9
       subst hm
       ·exact hb9 (by simp))
      obtain ⟨X,q1,q2⟩:=hv
      exact ⟨X,q1,q2.below hb⟩
     next =>
      replace hC9:=sb hC9 hG9
      simp only [Act.put,sA,s0,s1] at hK9
      obtain ⟨X,e0,hq⟩:=fs hB 11
      simp only [e0] at hK9 ⊢
      go_simp
      exact hK9 _ _ _ rfl ⟨X,rfl,hq⟩ (sy hG9 hC9) bR
     refine aa (sQ T) (fun vs L9 w9 hG9 hC9 hB K9 hK9=>?_) ?_
     next =>
      replace hC9:=sb hC9 hG9
      obtain ⟨X,e0,hq⟩:=fs hB 11
      simp only [e0] at hK9 ⊢
      go_simp
      exact hK9 _ _ rfl (sy hG9 hC9) bR
     refine aa (undef) (fun vs L9 w9 hG9 hC9 hB K9 hK9=>?_) ?_
     next =>
      replace hC9:=hC9.here hG9
      obtain ⟨X,e0,hq⟩:=fs hB 12
      simp only [e0] at hK9 ⊢
      have Lr:=K2.below hC9 K2.lt
      obtain ⟨z0,z1,z2,z3,z4,z5,z6,z7⟩:=cells8 Lr
      obtain ⟨f0,f1,f2,f3,f4,f5,f6,f7⟩:=frz8 Lr
      have hN8:=Lib.hid (iA.put (X:=X) Lr hq)
      have hD8:=Lib.hid (dN (g:=gr) (b6.trans (hC9.mono b6.size)) hge (F X.TA X.t.length X.tc) (F X.OA X.o.length X.oc) (O U X.got) (O U X.sold) (O U X.missed) (sQ l.D) (sQ l.P) (O U l.n))
      clear Lr hq
      go_simp
      exact hK9 _ _ rfl (Sw.turn ⟨hD8.out,hN8.out⟩) (fun hq=>(hq (by decide)).elim)
     apply aa
     case h1 =>
      intro vs L9 w9 hG9 hC9 hB K9 hK9
      replace hC9:=hC9.after hG9 (by kernel_rfl)
      have d13:=fe hB 13
      simp only [d13] at hK9 ⊢
      simp only [Act.put,sA,s0,s1] at hK9
      go_simp
      exact hK9 _ _ rfl (Sw.on hG9 (by kernel_rfl) hC9) bR
     refine az fun vs L9 w9 hL9 hC9 hB=>?_
     replace hC9:=hC9.done hL9 (by decide)
     have dl:=ag.eq (hB 15 _ rfl rfl (by decide))
     simp only [dl]
     clear hB dl
     obtain ⟨hD,X,hN,hV⟩:=hC9
     obtain ⟨k0,k1,k2,k3,k4,k5,k6,k7⟩:=cells8 hN
     clear hN
     go_wp2
     refine bodyPost_ret (v:=.tuple #[aL X l,sQ T]) (by simp [results,Tryz.results47,go_sem, *]) rfl (bf.mk HT.out hV hD)
    have f0:(w0.toList == [115,104,111,119])=false:=bC h0
    by_cases h1:w0=⟨#[98,97,99,107]⟩
    ·subst h1
     have HR2:R=bL x ⟨3,a0,a1,a2⟩:=by rw [HR1]; unfold cn; rw [if_neg (by decide),if_pos rfl]; rfl
     have hc:=fun W hR=>eR x l ⟨3,a0,a1,a2⟩ W hR hcap
     rw [← HR2] at hc
     obtain ⟨T,hT⟩ : ∃ T,ix R=T:=⟨_,rfl⟩
     unfold bf at hc
     rw [hT] at hc
     have HT:=Lib.hid hT
     clear hT HR1 HR2
     go_wp2_with fail
     refine an (Sw 14 (fun W9=>Below wr.heap.size wr W9) (fun W9=>Below w.heap.size w W9∧iA W9 w.heap.size gr x l (eF x R))) (fun i w1 w2=>i ∉ [14]→Below w1.heap.size w1 w2) (by kernel_rfl) (by kernel_rfl) (by kernel_rfl) (Sw.start (Below.refl _ _).drew) ?_
     simp only [ax,Act.put,List.setIfInBounds_toArray,List.set_cons_zero,List.set_cons_succ,Nat.zero_add,Nat.reduceAdd]
     apply aa
     case h1 =>
      intro vs L9 w9 hG9 hC9 hB K9 hK9
      replace hC9:=sb hC9 hG9
      have q0:w9.cell? ⟨w.heap.size,0,none⟩=some (F x.TA x.t.length x.tc):=(K1.below hC9 K1.lt).cell 0
      have q1:w9.cell? ⟨w.heap.size,1,none⟩=some (F x.OA x.o.length x.oc):=(K1.below hC9 K1.lt).cell 1
      have q2:w9.cell? ⟨w.heap.size,2,none⟩=some (O U x.got):=(K1.below hC9 K1.lt).cell 2
      have q3:w9.cell? ⟨w.heap.size,3,none⟩=some (O U x.sold):=(K1.below hC9 K1.lt).cell 3
      have q4:w9.cell? ⟨w.heap.size,4,none⟩=some (O U x.missed):=(K1.below hC9 K1.lt).cell 4
      have q5:w9.cell? ⟨w.heap.size,5,none⟩=some (sQ l.D):=(K1.below hC9 K1.lt).cell 5
      have q6:w9.cell? ⟨w.heap.size,6,none⟩=some (sQ l.P):=(K1.below hC9 K1.lt).cell 6
      have q7:w9.cell? ⟨w.heap.size,7,none⟩=some (O U l.n):=(K1.below hC9 K1.lt).cell 7
      simp only [Act.put,sA,s0,s1] at hK9
      go_simp
      exact hK9 _ _ rfl (sy hG9 hC9) bR
     apply aa
     case h1 =>
      intro vs L9 w9 hG9 hC9 hB K9 hK9
      replace hC9:=sb hC9 hG9
      simp only [Act.put,sA,s0,s1] at hK9
      go_simp
      exact hK9 _ _ rfl (sy hG9 hC9) bR
     apply aa
     case h1 =>
      intro vs L9 w9 hG9 hC9 hB K9 hK9
      replace hC9:=sb hC9 hG9
      have d1:=fe hB 1
      simp only [d1] at hK9 ⊢
      simp only [Act.put,sA,s0,s1] at hK9
      go_simp
      exact hK9 _ _ rfl (sy hG9 hC9) bR
     apply aa
     case h1 =>
      intro vs L9 w9 hG9 hC9 hB K9 hK9
      replace hC9:=sb hC9 hG9
      have d2:=fe hB 2
      simp only [d2] at hK9 ⊢
      have q0:w9.cell? ⟨gN,0,none⟩=some (O U a0):=(hC9.cell LN.lt).trans d0n
      simp only [Act.put,sA,s0,s1] at hK9
      go_simp
      exact hK9 _ _ rfl (sy hG9 hC9) bR
     apply aa
     case h1 =>
      intro vs L9 w9 hG9 hC9 hB K9 hK9
      replace hC9:=sb hC9 hG9
      simp only [Act.put,sA,s0,s1] at hK9
      go_simp
      exact hK9 _ _ rfl (sy hG9 hC9) bR
     apply aa
     case h1 =>
      intro vs L9 w9 hG9 hC9 hB K9 hK9
      replace hC9:=sb hC9 hG9
      have d4:=fe hB 4
      simp only [d4] at hK9 ⊢
      simp only [Act.put,sA,s0,s1] at hK9
      go_simp
      exact hK9 _ _ rfl (sy hG9 hC9) bR
     apply aa
     case h1 =>
      intro vs L9 w9 hG9 hC9 hB K9 hK9
      replace hC9:=sb hC9 hG9
      have d5:=fe hB 5
      simp only [d5] at hK9 ⊢
      have q0:w9.cell? ⟨gN,1,none⟩=some (O U a1):=(hC9.cell LN.lt).trans d1n
      simp only [Act.put,sA,s0,s1] at hK9
      go_simp
      exact hK9 _ _ rfl (sy hG9 hC9) bR
     apply aa
     case h1 =>
      intro vs L9 w9 hG9 hC9 hB K9 hK9
      replace hC9:=sb hC9 hG9
      simp only [Act.put,sA,s0,s1] at hK9
      go_simp
      exact hK9 _ _ rfl (sy hG9 hC9) bR
     apply aa
     case h1 =>
      intro vs L9 w9 hG9 hC9 hB K9 hK9
      replace hC9:=sb hC9 hG9
      have d7:=fe hB 7
      simp only [d7] at hK9 ⊢
      simp only [Act.put,sA,s0,s1] at hK9
      go_simp
      exact hK9 _ _ rfl (sy hG9 hC9) bR
     apply aa
     case h1 =>
      intro vs L9 w9 hG9 hC9 hB K9 hK9
      replace hC9:=sb hC9 hG9
      have d8:=fe hB 8
      simp only [d8] at hK9 ⊢
      have q0:w9.cell? ⟨gN,2,none⟩=some (O U a2):=(hC9.cell LN.lt).trans d2n
      simp only [Act.put,sA,s0,s1] at hK9
      go_simp
      exact hK9 _ _ rfl (sy hG9 hC9) bR
     apply aa
     case h1 =>
      intro vs L9 w9 hG9 hC9 hB K9 hK9
      replace hC9:=sb hC9 hG9
      have d3:=fe hB 3
      have d6:=fe hB 6
      have d9:=fe hB 9
      simp only [d3,d6,d9] at hK9 ⊢
      simp only [Act.put,sA,s0,s1] at hK9
      go_simp
      exact hK9 _ _ rfl (sy hG9 hC9) bR
     refine ak [14] (fun v w9=>∃ X:aM,v=.tuple #[aL X l,sQ T]∧eE w9 w.heap.size x l (eF x R) (aL X l)) ?_ (fun vs L9 w9 hG9 hC9 hB K9 hK9=>?_) ?_
     next =>
      intro i9 hi9 hb9 ha9 v w1 w2 hv hT9
      have hb:=hT9 (fun hm=>by
       simp only [List.mem_cons,List.not_mem_nil,or_false] at hm hb9
       subst hm
       ·exact hb9 (by simp))
      obtain ⟨X,q1,q2⟩:=hv
      exact ⟨X,q1,q2.below hb⟩
     next =>
      replace hC9:=sb hC9 hG9
      have d0:=fe hB 0
      have d10:=fe hB 10
      simp only [d0,d10] at hK9 ⊢
      simp only [Act.put,sA,s0,s1] at hK9
      go_simp
      refine (hc w9 (hW6.then hC9)).mono ?_
      rintro en w8 ⟨v,rfl,hv,hb8⟩
      obtain ⟨X,rfl⟩:=hv.con
      exact hK9 _ _ _ rfl ⟨X,rfl,hv.lower (Nat.le_trans b6.size hC9.size)⟩ (Sw.stay hG9 (by kernel_rfl) (by decide) (hC9.trans (hb8.mono hC9.size))) (fun _=>hb8)
     refine ak [14] (fun v w9=>∃ X:aM,v=aL X l∧eE w9 w.heap.size x l (eF x R) (aL X l)) ?_ (fun vs L9 w9 hG9 hC9 hB K9 hK9=>?_) ?_
     next =>
      intro i9 hi9 hb9 ha9 v w1 w2 hv hT9
      have hb:=hT9 (fun hm=>by
       simp only [List.mem_cons,List.not_mem_nil,or_false] at hm hb9
       subst hm
       ·exact hb9 (by simp))
      obtain ⟨X,q1,q2⟩:=hv
      exact ⟨X,q1,q2.below hb⟩
     next =>
      replace hC9:=sb hC9 hG9
      simp only [Act.put,sA,s0,s1] at hK9
      obtain ⟨X,e0,hq⟩:=fs hB 11
      simp only [e0] at hK9 ⊢
      go_simp
      exact hK9 _ _ _ rfl ⟨X,rfl,hq⟩ (sy hG9 hC9) bR
     refine aa (sQ T) (fun vs L9 w9 hG9 hC9 hB K9 hK9=>?_) ?_
     next =>
      replace hC9:=sb hC9 hG9
      obtain ⟨X,e0,hq⟩:=fs hB 11
      simp only [e0] at hK9 ⊢
      go_simp
      exact hK9 _ _ rfl (sy hG9 hC9) bR
     refine aa (undef) (fun vs L9 w9 hG9 hC9 hB K9 hK9=>?_) ?_
     next =>
      replace hC9:=hC9.here hG9
      obtain ⟨X,e0,hq⟩:=fs hB 12
      simp only [e0] at hK9 ⊢
      have Lr:=K2.below hC9 K2.lt
      obtain ⟨z0,z1,z2,z3,z4,z5,z6,z7⟩:=cells8 Lr
      obtain ⟨f0,f1,f2,f3,f4,f5,f6,f7⟩:=frz8 Lr
      have hN8:=Lib.hid (iA.put (X:=X) Lr hq)
      have hD8:=Lib.hid (dN (g:=gr) (b6.trans (hC9.mono b6.size)) hge (F X.TA X.t.length X.tc) (F X.OA X.o.length X.oc) (O U X.got) (O U X.sold) (O U X.missed) (sQ l.D) (sQ l.P) (O U l.n))
      clear Lr hq
      go_simp
      exact hK9 _ _ rfl (Sw.turn ⟨hD8.out,hN8.out⟩) (fun hq=>(hq (by decide)).elim)
     apply aa
     case h1 =>
      intro vs L9 w9 hG9 hC9 hB K9 hK9
      replace hC9:=hC9.after hG9 (by kernel_rfl)
      have d13:=fe hB 13
      simp only [d13] at hK9 ⊢
      simp only [Act.put,sA,s0,s1] at hK9
      go_simp
      exact hK9 _ _ rfl (Sw.on hG9 (by kernel_rfl) hC9) bR
     refine az fun vs L9 w9 hL9 hC9 hB=>?_
     replace hC9:=hC9.done hL9 (by decide)
     have dl:=ag.eq (hB 15 _ rfl rfl (by decide))
     simp only [dl]
     clear hB dl
     obtain ⟨hD,X,hN,hV⟩:=hC9
     obtain ⟨k0,k1,k2,k3,k4,k5,k6,k7⟩:=cells8 hN
     clear hN
     go_wp2
     refine bodyPost_ret (v:=.tuple #[aL X l,sQ T]) (by simp [results,Tryz.results47,go_sem, *]) rfl (bf.mk HT.out hV hD)
    have f1:(w0.toList == [98,97,99,107])=false:=bC h1
    by_cases h2:w0=⟨#[115,101,108,108]⟩
    ·subst h2
     have HR2:R=bL x ⟨4,a0,a1,a2⟩:=by rw [HR1]; unfold cn; rw [if_neg (by decide),if_neg (by decide),if_pos rfl]; rfl
     have hc:=fun W hR=>eR x l ⟨4,a0,a1,a2⟩ W hR hcap
     rw [← HR2] at hc
     obtain ⟨T,hT⟩ : ∃ T,ix R=T:=⟨_,rfl⟩
     unfold bf at hc
     rw [hT] at hc
     have HT:=Lib.hid hT
     clear hT HR1 HR2
     go_wp2_with fail
     refine an (Sw 14 (fun W9=>Below wr.heap.size wr W9) (fun W9=>Below w.heap.size w W9∧iA W9 w.heap.size gr x l (eF x R))) (fun i w1 w2=>i ∉ [14]→Below w1.heap.size w1 w2) (by kernel_rfl) (by kernel_rfl) (by kernel_rfl) (Sw.start (Below.refl _ _).drew) ?_
     simp only [ax,Act.put,List.setIfInBounds_toArray,List.set_cons_zero,List.set_cons_succ,Nat.zero_add,Nat.reduceAdd]
     apply aa
     case h1 =>
      intro vs L9 w9 hG9 hC9 hB K9 hK9
      replace hC9:=sb hC9 hG9
      have q0:w9.cell? ⟨w.heap.size,0,none⟩=some (F x.TA x.t.length x.tc):=(K1.below hC9 K1.lt).cell 0
      have q1:w9.cell? ⟨w.heap.size,1,none⟩=some (F x.OA x.o.length x.oc):=(K1.below hC9 K1.lt).cell 1
      have q2:w9.cell? ⟨w.heap.size,2,none⟩=some (O U x.got):=(K1.below hC9 K1.lt).cell 2
      have q3:w9.cell? ⟨w.heap.size,3,none⟩=some (O U x.sold):=(K1.below hC9 K1.lt).cell 3
      have q4:w9.cell? ⟨w.heap.size,4,none⟩=some (O U x.missed):=(K1.below hC9 K1.lt).cell 4
      have q5:w9.cell? ⟨w.heap.size,5,none⟩=some (sQ l.D):=(K1.below hC9 K1.lt).cell 5
      have q6:w9.cell? ⟨w.heap.size,6,none⟩=some (sQ l.P):=(K1.below hC9 K1.lt).cell 6
      have q7:w9.cell? ⟨w.heap.size,7,none⟩=some (O U l.n):=(K1.below hC9 K1.lt).cell 7
      simp only [Act.put,sA,s0,s1] at hK9
      go_simp
      exact hK9 _ _ rfl (sy hG9 hC9) bR
     apply aa
     case h1 =>
      intro vs L9 w9 hG9 hC9 hB K9 hK9
      replace hC9:=sb hC9 hG9
      simp only [Act.put,sA,s0,s1] at hK9
      go_simp
      exact hK9 _ _ rfl (sy hG9 hC9) bR
     apply aa
     case h1 =>
      intro vs L9 w9 hG9 hC9 hB K9 hK9
      replace hC9:=sb hC9 hG9
      have d1:=fe hB 1
      simp only [d1] at hK9 ⊢
      simp only [Act.put,sA,s0,s1] at hK9
      go_simp
      exact hK9 _ _ rfl (sy hG9 hC9) bR
     apply aa
     case h1 =>
      intro vs L9 w9 hG9 hC9 hB K9 hK9
      replace hC9:=sb hC9 hG9
      have d2:=fe hB 2
      simp only [d2] at hK9 ⊢
      have q0:w9.cell? ⟨gN,0,none⟩=some (O U a0):=(hC9.cell LN.lt).trans d0n
      simp only [Act.put,sA,s0,s1] at hK9
      go_simp
      exact hK9 _ _ rfl (sy hG9 hC9) bR
     apply aa
     case h1 =>
      intro vs L9 w9 hG9 hC9 hB K9 hK9
      replace hC9:=sb hC9 hG9
      simp only [Act.put,sA,s0,s1] at hK9
      go_simp
      exact hK9 _ _ rfl (sy hG9 hC9) bR
     apply aa
     case h1 =>
      intro vs L9 w9 hG9 hC9 hB K9 hK9
      replace hC9:=sb hC9 hG9
      have d4:=fe hB 4
      simp only [d4] at hK9 ⊢
      simp only [Act.put,sA,s0,s1] at hK9
      go_simp
      exact hK9 _ _ rfl (sy hG9 hC9) bR
     apply aa
     case h1 =>
      intro vs L9 w9 hG9 hC9 hB K9 hK9
      replace hC9:=sb hC9 hG9
      have d5:=fe hB 5
      simp only [d5] at hK9 ⊢
      have q0:w9.cell? ⟨gN,1,none⟩=some (O U a1):=(hC9.cell LN.lt).trans d1n
      simp only [Act.put,sA,s0,s1] at hK9
      go_simp
      exact hK9 _ _ rfl (sy hG9 hC9) bR
     apply aa
     case h1 =>
      intro vs L9 w9 hG9 hC9 hB K9 hK9
      replace hC9:=sb hC9 hG9
      simp only [Act.put,sA,s0,s1] at hK9
      go_simp
      exact hK9 _ _ rfl (sy hG9 hC9) bR
     apply aa
     case h1 =>
      intro vs L9 w9 hG9 hC9 hB K9 hK9
      replace hC9:=sb hC9 hG9
      have d7:=fe hB 7
      simp only [d7] at hK9 ⊢
      simp only [Act.put,sA,s0,s1] at hK9
      go_simp
      exact hK9 _ _ rfl (sy hG9 hC9) bR
     apply aa
     case h1 =>
      intro vs L9 w9 hG9 hC9 hB K9 hK9
      replace hC9:=sb hC9 hG9
      have d8:=fe hB 8
      simp only [d8] at hK9 ⊢
      have q0:w9.cell? ⟨gN,2,none⟩=some (O U a2):=(hC9.cell LN.lt).trans d2n
      simp only [Act.put,sA,s0,s1] at hK9
      go_simp
      exact hK9 _ _ rfl (sy hG9 hC9) bR
     apply aa
     case h1 =>
      intro vs L9 w9 hG9 hC9 hB K9 hK9
      replace hC9:=sb hC9 hG9
      have d3:=fe hB 3
      have d6:=fe hB 6
      have d9:=fe hB 9
      simp only [d3,d6,d9] at hK9 ⊢
      simp only [Act.put,sA,s0,s1] at hK9
      go_simp
      exact hK9 _ _ rfl (sy hG9 hC9) bR
     refine ak [14] (fun v w9=>∃ X:aM,v=.tuple #[aL X l,sQ T]∧eE w9 w.heap.size x l (eF x R) (aL X l)) ?_ (fun vs L9 w9 hG9 hC9 hB K9 hK9=>?_) ?_
     next =>
      intro i9 hi9 hb9 ha9 v w1 w2 hv hT9
      have hb:=hT9 (fun hm=>by
       simp only [List.mem_cons,List.not_mem_nil,or_false] at hm hb9
       subst hm
       ·exact hb9 (by simp))
      obtain ⟨X,q1,q2⟩:=hv
      exact ⟨X,q1,q2.below hb⟩
     next =>
      replace hC9:=sb hC9 hG9
      have d0:=fe hB 0
      have d10:=fe hB 10
      simp only [d0,d10] at hK9 ⊢
      simp only [Act.put,sA,s0,s1] at hK9
      go_simp
      refine (hc w9 (hW6.then hC9)).mono ?_
      rintro en w8 ⟨v,rfl,hv,hb8⟩
      obtain ⟨X,rfl⟩:=hv.con
      exact hK9 _ _ _ rfl ⟨X,rfl,hv.lower (Nat.le_trans b6.size hC9.size)⟩ (Sw.stay hG9 (by kernel_rfl) (by decide) (hC9.trans (hb8.mono hC9.size))) (fun _=>hb8)
     refine ak [14] (fun v w9=>∃ X:aM,v=aL X l∧eE w9 w.heap.size x l (eF x R) (aL X l)) ?_ (fun vs L9 w9 hG9 hC9 hB K9 hK9=>?_) ?_
     next =>
      intro i9 hi9 hb9 ha9 v w1 w2 hv hT9
      have hb:=hT9 (fun hm=>by
       simp only [List.mem_cons,List.not_mem_nil,or_false] at hm hb9
       subst hm
       ·exact hb9 (by simp))
      obtain ⟨X,q1,q2⟩:=hv
      exact ⟨X,q1,q2.below hb⟩
     next =>
      replace hC9:=sb hC9 hG9
      simp only [Act.put,sA,s0,s1] at hK9
      obtain ⟨X,e0,hq⟩:=fs hB 11
      simp only [e0] at hK9 ⊢
      go_simp
      exact hK9 _ _ _ rfl ⟨X,rfl,hq⟩ (sy hG9 hC9) bR
     refine aa (sQ T) (fun vs L9 w9 hG9 hC9 hB K9 hK9=>?_) ?_
     next =>
      replace hC9:=sb hC9 hG9
      obtain ⟨X,e0,hq⟩:=fs hB 11
      simp only [e0] at hK9 ⊢
      go_simp
      exact hK9 _ _ rfl (sy hG9 hC9) bR
     refine aa (undef) (fun vs L9 w9 hG9 hC9 hB K9 hK9=>?_) ?_
     next =>
      replace hC9:=hC9.here hG9
      obtain ⟨X,e0,hq⟩:=fs hB 12
      simp only [e0] at hK9 ⊢
      have Lr:=K2.below hC9 K2.lt
      obtain ⟨z0,z1,z2,z3,z4,z5,z6,z7⟩:=cells8 Lr
      obtain ⟨f0,f1,f2,f3,f4,f5,f6,f7⟩:=frz8 Lr
      have hN8:=Lib.hid (iA.put (X:=X) Lr hq)
      have hD8:=Lib.hid (dN (g:=gr) (b6.trans (hC9.mono b6.size)) hge (F X.TA X.t.length X.tc) (F X.OA X.o.length X.oc) (O U X.got) (O U X.sold) (O U X.missed) (sQ l.D) (sQ l.P) (O U l.n))
      clear Lr hq
      go_simp
      exact hK9 _ _ rfl (Sw.turn ⟨hD8.out,hN8.out⟩) (fun hq=>(hq (by decide)).elim)
     apply aa
     case h1 =>
      intro vs L9 w9 hG9 hC9 hB K9 hK9
      replace hC9:=hC9.after hG9 (by kernel_rfl)
      have d13:=fe hB 13
      simp only [d13] at hK9 ⊢
      simp only [Act.put,sA,s0,s1] at hK9
      go_simp
      exact hK9 _ _ rfl (Sw.on hG9 (by kernel_rfl) hC9) bR
     refine az fun vs L9 w9 hL9 hC9 hB=>?_
     replace hC9:=hC9.done hL9 (by decide)
     have dl:=ag.eq (hB 15 _ rfl rfl (by decide))
     simp only [dl]
     clear hB dl
     obtain ⟨hD,X,hN,hV⟩:=hC9
     obtain ⟨k0,k1,k2,k3,k4,k5,k6,k7⟩:=cells8 hN
     clear hN
     go_wp2
     refine bodyPost_ret (v:=.tuple #[aL X l,sQ T]) (by simp [results,Tryz.results47,go_sem, *]) rfl (bf.mk HT.out hV hD)
    have f2:(w0.toList == [115,101,108,108])=false:=bC h2
    by_cases h3:w0=⟨#[109,111,118,101]⟩
    ·subst h3
     have HR2:R=bL x ⟨6,a0,a1,a2⟩:=by rw [HR1]; unfold cn; rw [if_neg (by decide),if_neg (by decide),if_neg (by decide),if_pos rfl]; rfl
     have hc:=fun W hR=>eR x l ⟨6,a0,a1,a2⟩ W hR hcap
     rw [← HR2] at hc
     obtain ⟨T,hT⟩ : ∃ T,ix R=T:=⟨_,rfl⟩
     unfold bf at hc
     rw [hT] at hc
     have HT:=Lib.hid hT
     clear hT HR1 HR2
     go_wp2_with fail
     refine an (Sw 14 (fun W9=>Below wr.heap.size wr W9) (fun W9=>Below w.heap.size w W9∧iA W9 w.heap.size gr x l (eF x R))) (fun i w1 w2=>i ∉ [14]→Below w1.heap.size w1 w2) (by kernel_rfl) (by kernel_rfl) (by kernel_rfl) (Sw.start (Below.refl _ _).drew) ?_
     simp only [ax,Act.put,List.setIfInBounds_toArray,List.set_cons_zero,List.set_cons_succ,Nat.zero_add,Nat.reduceAdd]
     apply aa
     case h1 =>
      intro vs L9 w9 hG9 hC9 hB K9 hK9
      replace hC9:=sb hC9 hG9
      have q0:w9.cell? ⟨w.heap.size,0,none⟩=some (F x.TA x.t.length x.tc):=(K1.below hC9 K1.lt).cell 0
      have q1:w9.cell? ⟨w.heap.size,1,none⟩=some (F x.OA x.o.length x.oc):=(K1.below hC9 K1.lt).cell 1
      have q2:w9.cell? ⟨w.heap.size,2,none⟩=some (O U x.got):=(K1.below hC9 K1.lt).cell 2
      have q3:w9.cell? ⟨w.heap.size,3,none⟩=some (O U x.sold):=(K1.below hC9 K1.lt).cell 3
      have q4:w9.cell? ⟨w.heap.size,4,none⟩=some (O U x.missed):=(K1.below hC9 K1.lt).cell 4
      have q5:w9.cell? ⟨w.heap.size,5,none⟩=some (sQ l.D):=(K1.below hC9 K1.lt).cell 5
      have q6:w9.cell? ⟨w.heap.size,6,none⟩=some (sQ l.P):=(K1.below hC9 K1.lt).cell 6
      have q7:w9.cell? ⟨w.heap.size,7,none⟩=some (O U l.n):=(K1.below hC9 K1.lt).cell 7
      simp only [Act.put,sA,s0,s1] at hK9
      go_simp
      exact hK9 _ _ rfl (sy hG9 hC9) bR
     apply aa
     case h1 =>
      intro vs L9 w9 hG9 hC9 hB K9 hK9
      replace hC9:=sb hC9 hG9
      simp only [Act.put,sA,s0,s1] at hK9
      go_simp
      exact hK9 _ _ rfl (sy hG9 hC9) bR
     apply aa
     case h1 =>
      intro vs L9 w9 hG9 hC9 hB K9 hK9
      replace hC9:=sb hC9 hG9
      have d1:=fe hB 1
      simp only [d1] at hK9 ⊢
      simp only [Act.put,sA,s0,s1] at hK9
      go_simp
      exact hK9 _ _ rfl (sy hG9 hC9) bR
     apply aa
     case h1 =>
      intro vs L9 w9 hG9 hC9 hB K9 hK9
      replace hC9:=sb hC9 hG9
      have d2:=fe hB 2
      simp only [d2] at hK9 ⊢
      have q0:w9.cell? ⟨gN,0,none⟩=some (O U a0):=(hC9.cell LN.lt).trans d0n
      simp only [Act.put,sA,s0,s1] at hK9
      go_simp
      exact hK9 _ _ rfl (sy hG9 hC9) bR
     apply aa
     case h1 =>
      intro vs L9 w9 hG9 hC9 hB K9 hK9
      replace hC9:=sb hC9 hG9
      simp only [Act.put,sA,s0,s1] at hK9
      go_simp
      exact hK9 _ _ rfl (sy hG9 hC9) bR
     apply aa
     case h1 =>
      intro vs L9 w9 hG9 hC9 hB K9 hK9
      replace hC9:=sb hC9 hG9
      have d4:=fe hB 4
      simp only [d4] at hK9 ⊢
      simp only [Act.put,sA,s0,s1] at hK9
      go_simp
      exact hK9 _ _ rfl (sy hG9 hC9) bR
     apply aa
     case h1 =>
      intro vs L9 w9 hG9 hC9 hB K9 hK9
      replace hC9:=sb hC9 hG9
      have d5:=fe hB 5
      simp only [d5] at hK9 ⊢
      have q0:w9.cell? ⟨gN,1,none⟩=some (O U a1):=(hC9.cell LN.lt).trans d1n
      simp only [Act.put,sA,s0,s1] at hK9
      go_simp
      exact hK9 _ _ rfl (sy hG9 hC9) bR
     apply aa
     case h1 =>
      intro vs L9 w9 hG9 hC9 hB K9 hK9
      replace hC9:=sb hC9 hG9
      simp only [Act.put,sA,s0,s1] at hK9
      go_simp
      exact hK9 _ _ rfl (sy hG9 hC9) bR
     apply aa
     case h1 =>
      intro vs L9 w9 hG9 hC9 hB K9 hK9
      replace hC9:=sb hC9 hG9
      have d7:=fe hB 7
      simp only [d7] at hK9 ⊢
      simp only [Act.put,sA,s0,s1] at hK9
      go_simp
      exact hK9 _ _ rfl (sy hG9 hC9) bR
     apply aa
     case h1 =>
      intro vs L9 w9 hG9 hC9 hB K9 hK9
      replace hC9:=sb hC9 hG9
      have d8:=fe hB 8
      simp only [d8] at hK9 ⊢
      have q0:w9.cell? ⟨gN,2,none⟩=some (O U a2):=(hC9.cell LN.lt).trans d2n
      simp only [Act.put,sA,s0,s1] at hK9
      go_simp
      exact hK9 _ _ rfl (sy hG9 hC9) bR
     apply aa
     case h1 =>
      intro vs L9 w9 hG9 hC9 hB K9 hK9
      replace hC9:=sb hC9 hG9
      have d3:=fe hB 3
      have d6:=fe hB 6
      have d9:=fe hB 9
      simp only [d3,d6,d9] at hK9 ⊢
      simp only [Act.put,sA,s0,s1] at hK9
      go_simp
      exact hK9 _ _ rfl (sy hG9 hC9) bR
     refine ak [14] (fun v w9=>∃ X:aM,v=.tuple #[aL X l,sQ T]∧eE w9 w.heap.size x l (eF x R) (aL X l)) ?_ (fun vs L9 w9 hG9 hC9 hB K9 hK9=>?_) ?_
     next =>
      intro i9 hi9 hb9 ha9 v w1 w2 hv hT9
      have hb:=hT9 (fun hm=>by
       simp only [List.mem_cons,List.not_mem_nil,or_false] at hm hb9
       subst hm
       ·exact hb9 (by simp))
      obtain ⟨X,q1,q2⟩:=hv
      exact ⟨X,q1,q2.below hb⟩
     next =>
      replace hC9:=sb hC9 hG9
      have d0:=fe hB 0
      have d10:=fe hB 10
      simp only [d0,d10] at hK9 ⊢
      simp only [Act.put,sA,s0,s1] at hK9
      go_simp
      refine (hc w9 (hW6.then hC9)).mono ?_
      rintro en w8 ⟨v,rfl,hv,hb8⟩
      obtain ⟨X,rfl⟩:=hv.con
      exact hK9 _ _ _ rfl ⟨X,rfl,hv.lower (Nat.le_trans b6.size hC9.size)⟩ (Sw.stay hG9 (by kernel_rfl) (by decide) (hC9.trans (hb8.mono hC9.size))) (fun _=>hb8)
     refine ak [14] (fun v w9=>∃ X:aM,v=aL X l∧eE w9 w.heap.size x l (eF x R) (aL X l)) ?_ (fun vs L9 w9 hG9 hC9 hB K9 hK9=>?_) ?_
     next =>
      intro i9 hi9 hb9 ha9 v w1 w2 hv hT9
      have hb:=hT9 (fun hm=>by
       simp only [List.mem_cons,List.not_mem_nil,or_false] at hm hb9
       subst hm
       ·exact hb9 (by simp))
      obtain ⟨X,q1,q2⟩:=hv
      exact ⟨X,q1,q2.below hb⟩
     next =>
      replace hC9:=sb hC9 hG9
      simp only [Act.put,sA,s0,s1] at hK9
      obtain ⟨X,e0,hq⟩:=fs hB 11
      simp only [e0] at hK9 ⊢
      go_simp
      exact hK9 _ _ _ rfl ⟨X,rfl,hq⟩ (sy hG9 hC9) bR
     refine aa (sQ T) (fun vs L9 w9 hG9 hC9 hB K9 hK9=>?_) ?_
     next =>
      replace hC9:=sb hC9 hG9
      obtain ⟨X,e0,hq⟩:=fs hB 11
      simp only [e0] at hK9 ⊢
      go_simp
      exact hK9 _ _ rfl (sy hG9 hC9) bR
     refine aa (undef) (fun vs L9 w9 hG9 hC9 hB K9 hK9=>?_) ?_
     next =>
      replace hC9:=hC9.here hG9
      obtain ⟨X,e0,hq⟩:=fs hB 12
      simp only [e0] at hK9 ⊢
      have Lr:=K2.below hC9 K2.lt
      obtain ⟨z0,z1,z2,z3,z4,z5,z6,z7⟩:=cells8 Lr
      obtain ⟨f0,f1,f2,f3,f4,f5,f6,f7⟩:=frz8 Lr
      have hN8:=Lib.hid (iA.put (X:=X) Lr hq)
      have hD8:=Lib.hid (dN (g:=gr) (b6.trans (hC9.mono b6.size)) hge (F X.TA X.t.length X.tc) (F X.OA X.o.length X.oc) (O U X.got) (O U X.sold) (O U X.missed) (sQ l.D) (sQ l.P) (O U l.n))
      clear Lr hq
      go_simp
      exact hK9 _ _ rfl (Sw.turn ⟨hD8.out,hN8.out⟩) (fun hq=>(hq (by decide)).elim)
     apply aa
     case h1 =>
      intro vs L9 w9 hG9 hC9 hB K9 hK9
      replace hC9:=hC9.after hG9 (by kernel_rfl)
      have d13:=fe hB 13
      simp only [d13] at hK9 ⊢
      simp only [Act.put,sA,s0,s1] at hK9
      go_simp
      exact hK9 _ _ rfl (Sw.on hG9 (by kernel_rfl) hC9) bR
     refine az fun vs L9 w9 hL9 hC9 hB=>?_
     replace hC9:=hC9.done hL9 (by decide)
     have dl:=ag.eq (hB 15 _ rfl rfl (by decide))
     simp only [dl]
     clear hB dl
     obtain ⟨hD,X,hN,hV⟩:=hC9
     obtain ⟨k0,k1,k2,k3,k4,k5,k6,k7⟩:=cells8 hN
     clear hN
     go_wp2
     refine bodyPost_ret (v:=.tuple #[aL X l,sQ T]) (by simp [results,Tryz.results47,go_sem, *]) rfl (bf.mk HT.out hV hD)
    have f3:(w0.toList == [109,111,118,101])=false:=bC h3
    have HR2:Hid (R=none):=by rw [Hid,HR1]; unfold cn; rw [if_neg h0,if_neg h1,if_neg h2,if_neg h3]; rfl
    clear h0 h1 h2 h3 HR1
    obtain ⟨c0,c1,c2,c3,c4,c5,c6,c7⟩:=cells8 K1
    obtain ⟨z0,z1,z2,z3,z4,z5,z6,z7⟩:=cells8 K2
    obtain ⟨ff0,ff1,ff2,ff3,ff4,ff5,ff6,ff7⟩:=frz8 K2
    have bz:=Lib.hid (dN (g:=gr) (b6) hge (F x.TA x.t.length x.tc) (F x.OA x.o.length x.oc) (O U x.got) (O U x.sold) (O U x.missed) (sQ l.D) (sQ l.P) (O U l.n))
    clear K1 K2 b6
    go_wp2_with fail
    refine bodyPost_ret (v:=.tuple #[aL x l,sQ ⟨#[63]⟩]) (by simp [results,Tryz.results47,go_sem, *]) rfl (by rw [HR2.out]; exact ⟨_,rfl,.inl ⟨rfl,rfl⟩,bz.out⟩)
   have z0:((m.length:Int) == 0)=false:=beq_false_of_ne (by omega)
   have z1:((m.length:Int) == 1)=false:=beq_false_of_ne (by omega)
   have z2:((m.length:Int) == 2)=false:=beq_false_of_ne (by omega)
   have z3:((m.length:Int) == 3)=false:=beq_false_of_ne (by omega)
   have HR2:Hid (R=none):=by rw [Hid,HE.out]; exact oO (by omega)
   clear HE HW1 HLEN HNS
   obtain ⟨c0,c1,c2,c3,c4,c5,c6,c7⟩:=cells8 K1
   obtain ⟨z0,z1,z2,z3,z4,z5,z6,z7⟩:=cells8 K2
   obtain ⟨ff0,ff1,ff2,ff3,ff4,ff5,ff6,ff7⟩:=frz8 K2
   have bz:=Lib.hid (dN (g:=gr) (b6) hge (F x.TA x.t.length x.tc) (F x.OA x.o.length x.oc) (O U x.got) (O U x.sold) (O U x.missed) (sQ l.D) (sQ l.P) (O U l.n))
   clear K1 K2 b6
   go_wp2_with fail
   refine bodyPost_ret (v:=.tuple #[aL x l,sQ ⟨#[63]⟩]) (by simp [results,Tryz.results47,go_sem, *]) rfl (by rw [HR2.out]; exact ⟨_,rfl,.inl ⟨rfl,rfl⟩,bz.out⟩)
end Go.Proofs.YtoeoimhemojdeaaGreatDoor
