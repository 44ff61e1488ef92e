/- Lemmas. -/
import Derived.Test.YtoeoimhemojdeaaGreatDoorFs36

set_option linter.unusedVariables false
set_option linter.unusedSimpArgs false
set_option maxHeartbeats 8000000
open Go.Value renaming int → O, slice → F, string → wG
open Go.IntKind renaming i64 → U
open Go.Proofs.Tryz renaming prog → wH

namespace Go.Proofs.YtoeoimhemojdeaaGreatDoor
open Go.RowKit
theorem fE.con {w:World} {B:Nat} {x:aO} {l:Lg} {y:Oc} {v:Value} (h:fE w B x l y v):∃ X:aO,v=aJ X l:=by
 rcases h with ⟨rfl,_⟩ | ⟨TA,tc,OA,oc,rfl,_,_⟩
 ·exact ⟨x,rfl⟩
 ·exact ⟨y.at TA tc OA oc,rfl⟩
def jU (w:World) (B g:Nat) (x:aO) (l:Lg) (y:Oc):Prop:=∃ X:aO,ai w g 42 [F X.TA X.t.length X.tc,F X.OA X.o.length X.oc,O U X.gt,O U X.sd,O U X.ms,wG l.D,wG l.P,O U l.n]∧fE w B x l y (aJ X l)
theorem jU.put {w:World} {B g:Nat} {x X:aO} {l:Lg} {y:Oc} {a0 a1 a2 a3 a4 a5 a6 a7:Value} (hL:ai w g 42 [a0,a1,a2,a3,a4,a5,a6,a7]) (h:fE w B x l y (aJ X l)):jU ((((((((w.setCell ⟨g,0,none⟩ (F X.TA X.t.length X.tc)).setCell ⟨g,1,none⟩ (F X.OA X.o.length X.oc)).setCell ⟨g,2,none⟩ (O U X.gt)).setCell ⟨g,3,none⟩ (O U X.sd)).setCell ⟨g,4,none⟩ (O U X.ms)).setCell ⟨g,5,none⟩ (wG l.D)).setCell ⟨g,6,none⟩ (wG l.P)).setCell ⟨g,7,none⟩ (O U l.n)) B g x l y:=by
 have gr:w.grownBy ((((((((w.setCell ⟨g,0,none⟩ (F X.TA X.t.length X.tc)).setCell ⟨g,1,none⟩ (F X.OA X.o.length X.oc)).setCell ⟨g,2,none⟩ (O U X.gt)).setCell ⟨g,3,none⟩ (O U X.sd)).setCell ⟨g,4,none⟩ (O U X.ms)).setCell ⟨g,5,none⟩ (wG l.D)).setCell ⟨g,6,none⟩ (wG l.P)).setCell ⟨g,7,none⟩ (O U l.n)) (some g):=ab (g:=g) (i:=7) (u:=O U l.n) (ab (g:=g) (i:=6) (u:=wG l.P) (ab (g:=g) (i:=5) (u:=wG l.D) (gw5 w g (F X.TA X.t.length X.tc) (F X.OA X.o.length X.oc) (O U X.gt) (O U X.sd) (O U X.ms))))
 exact ⟨X,nn (hL) (F X.TA X.t.length X.tc) (F X.OA X.o.length X.oc) (O U X.gt) (O U X.sd) (O U X.ms) (wG l.D) (wG l.P) (O U l.n),h.kept hL gr⟩
theorem fE.put {w:World} {B g:Nat} {x X:aO} {l:Lg} {y:Oc} {v:Value} {a0 a1 a2 a3 a4 a5 a6 a7:Value} (hL:ai w g 42 [a0,a1,a2,a3,a4,a5,a6,a7]) (h:fE w B x l y v):fE ((((((((w.setCell ⟨g,0,none⟩ (F X.TA X.t.length X.tc)).setCell ⟨g,1,none⟩ (F X.OA X.o.length X.oc)).setCell ⟨g,2,none⟩ (O U X.gt)).setCell ⟨g,3,none⟩ (O U X.sd)).setCell ⟨g,4,none⟩ (O U X.ms)).setCell ⟨g,5,none⟩ (wG l.D)).setCell ⟨g,6,none⟩ (wG l.P)).setCell ⟨g,7,none⟩ (O U l.n)) B x l y v:=by
 have gr:w.grownBy ((((((((w.setCell ⟨g,0,none⟩ (F X.TA X.t.length X.tc)).setCell ⟨g,1,none⟩ (F X.OA X.o.length X.oc)).setCell ⟨g,2,none⟩ (O U X.gt)).setCell ⟨g,3,none⟩ (O U X.sd)).setCell ⟨g,4,none⟩ (O U X.ms)).setCell ⟨g,5,none⟩ (wG l.D)).setCell ⟨g,6,none⟩ (wG l.P)).setCell ⟨g,7,none⟩ (O U l.n)) (some g):=ab (g:=g) (i:=7) (u:=O U l.n) (ab (g:=g) (i:=6) (u:=wG l.P) (ab (g:=g) (i:=5) (u:=wG l.D) (gw5 w g (F X.TA X.t.length X.tc) (F X.OA X.o.length X.oc) (O U X.gt) (O U X.sd) (O U X.ms))))
 exact h.kept hL gr
theorem mA (s:ByteArray) (w:World) (hs:s.size≤1000000000):Calls wH 85 #[wG s] w (jo s w):=by
 have hc:=fun W=>sI s W hs
 obtain ⟨v,hv⟩ : ∃ v,(dh (bl s)).getD 0=v:=⟨_,rfl⟩
 obtain ⟨b,hb⟩ : ∃ b,(dh (bl s)).isSome=b:=⟨_,rfl⟩
 unfold jo at hc ⊢
 rw [hv,hb] at hc ⊢
 clear hv hb
 go_enter Tryz.func85,Tryz.ntmps85
 go_wp2_with fail
 refine (hc _).mono ?_
 rintro e w1 ⟨rfl,hb⟩
 go_wp2
 go_ret2
 exact ⟨rfl,hb⟩
structure vr (w wx:World) (g8:Nat) (ps:List (List UInt8)) (rest:List Value) (v:Value) (m:List Int):Prop where
 bl:Below w.heap.size w wx
 ws:ai wx g8 9 (dP ps++rest)
 row:wx.ownsRow w.heap.size 3 1 v m.length (bi m)
theorem vr.then {w wx wy:World} {g8:Nat} {ps:List (List UInt8)} {rest:List Value} {v:Value} {m:List Int} (S:vr w wx g8 ps rest v m) (hb:Below wx.heap.size wx wy):vr w wy g8 ps rest v m :=
 ⟨av S.bl hb,S.ws.below hb S.ws.lt,ac S.row hb⟩
theorem vr.push {w wx wz:World} {g8:Nat} {ps:List (List UInt8)} {rest:List Value} {v v' : Value} {m:List Int} {n:Int} (S:vr w wx g8 ps rest v m)
  (ho:wz.ownsRow w.heap.size 3 1 v' (m.length+1) (bi m++[O U n])) (hg:wx.grownBy wz v.ownBlock) (wM:Below w.heap.size wx wz):vr w wz g8 ps rest v' (m++[n]) :=
 ⟨S.bl.trans wM,S.ws.kept hg (bB S.row S.ws dD),by simpa using ho⟩
theorem rr {x:aO} {line:ByteArray} (h:dY ((aI 32 (bl line)).drop 1)=none):iZ x line=none:=by unfold iZ; rw [h]; rfl
theorem rt {x:aO} {line:ByteArray} {ns:List Int} (h:dY ((aI 32 (bl line)).drop 1)=some ns):iZ x line=bH x (wd (bl line) 0) ns:=by unfold iZ; rw [h]; rfl
theorem oy {x:aO} {w0:ByteArray} {ns:List Int} (h:ns.length=0):bH x w0 ns=(dy x w0).map (x.c,·):=by
 match ns,h with
 | [],_=>rfl
theorem tF {x:aO} {w0:ByteArray} {ns:List Int} (h:ns.length=1) (h0:0 < ns.length):bH x w0 ns=(gV x w0 ns[0]).map (x.c,·):=by
 match ns,h with
 | [a],_=>rfl
theorem vQ {x:aO} {w0:ByteArray} {ns:List Int} (h:ns.length=2) (h0:0 < ns.length) (h1:1 < ns.length):bH x w0 ns=(cZ w0 ns[0] ns[1]).bind (cc x):=by
 match ns,h with
 | [a,b],_=>rfl
theorem ut {x:aO} {w0:ByteArray} {ns:List Int} (h:ns.length=3) (h0:0 < ns.length) (h1:1 < ns.length) (h2:2 < ns.length):bH x w0 ns=(dB w0 ns[0] ns[1] ns[2]).bind (cc x):=by
 match ns,h with
 | [a,b,c],_=>rfl
theorem ru {x:aO} {w0:ByteArray} {ns:List Int} (h:4≤ns.length):bH x w0 ns=none:=by
 match ns,h with
 | a :: b :: c :: d :: l,_=>rfl
theorem lS {x:aO} (R:Option ByteArray):fF x (R.map (x.c,·))=x.c:=by cases R <;> rfl
theorem rv {x:aO} (R:Option ByteArray):jN (R.map (x.c,·))=R.getD da:=by cases R <;> rfl
set_option maxRecDepth 100000 in
theorem sJ (x:aO) (l:Lg) (s:ByteArray) (a b:Int) (w:World) (h:aQ w w.heap.size x) (wX:x.t.length≤x.tc) :
  Calls wH 88 #[aJ x l,wG s,O U a,O U b] w (bu w x l ((cZ s a b).bind (cc x))):=by
 have L1:=(ai.new w 42 #[F x.TA x.t.length x.tc,F x.OA x.o.length x.oc,O U x.gt,O U x.sd,O U x.ms,wG l.D,wG l.P,O U l.n]).alloc (.cells #[F none 0 0,F none 0 0,O U 0,O U 0,O U 0,wG ⟨#[]⟩,wG ⟨#[]⟩,O U 0] 42)
 have L2:=ai.new1 w (.cells #[F x.TA x.t.length x.tc,F x.OA x.o.length x.oc,O U x.gt,O U x.sd,O U x.ms,wG l.D,wG l.P,O U l.n] 42) 42 #[F none 0 0,F none 0 0,O U 0,O U 0,O U 0,wG ⟨#[]⟩,wG ⟨#[]⟩,O U 0]
 have b1:=bZ w (.cells #[F x.TA x.t.length x.tc,F x.OA x.o.length x.oc,O U x.gt,O U x.sd,O U x.ms,wG l.D,wG l.P,O U l.n] 42)
 have b2:=b1.alloc b1.size (.cells #[F none 0 0,F none 0 0,O U 0,O U 0,O U 0,wG ⟨#[]⟩,wG ⟨#[]⟩,O U 0] 42)
 have hW:=h.up b2 nR
 have xq:w.heap.size≤w.heap.size+1:=oM
 clear b1
 by_cases h0:s=⟨#[103,101,116]⟩
 ·subst h0
  have HR:(cZ ⟨#[103,101,116]⟩ a b).bind (cc x)=cc x ⟨1,a,0,b⟩:=by unfold cZ; rw [if_pos rfl]; rfl
  rw [HR]
  clear HR
  have hc:=fun W hW=>fT x l ⟨1,a,0,b⟩ W hW wX
  obtain ⟨R,hR⟩ : ∃ R,cc x ⟨1,a,0,b⟩=R:=⟨_,rfl⟩
  rw [hR] at hc ⊢
  clear hR
  obtain ⟨T,hT⟩ : ∃ T,jN R=T:=⟨_,rfl⟩
  unfold bu at hc
  rw [hT] at hc
  go_enter Tryz.func88,Tryz.ntmps88
  go_upto_region 3 with fail
  generalize ((w.alloc (.cells #[F x.TA x.t.length x.tc,F x.OA x.o.length x.oc,O U x.gt,O U x.sd,O U x.ms,wG l.D,wG l.P,O U l.n] 42)).alloc (.cells #[F none 0 0,F none 0 0,O U 0,O U 0,O U 0,wG ⟨#[]⟩,wG ⟨#[]⟩,O U 0] 42))=W at L1 L2 b2 hW ⊢
  obtain ⟨c0,c1,c2,c3,c4,c5,c6,c7⟩:=cells8 L1
  go_wp2_with fail
  refine (hc W hW).mono ?_
  rintro e W1 ⟨v,rfl,hv,hb⟩
  obtain ⟨X,rfl⟩:=hv.con
  have K2:=L2.below hb L2.lt
  have b3:=b2.trans (hb.mono (b2).size)
  have xw:=hv.lower (b2).size
  obtain ⟨z0,z1,z2,z3,z4,z5,z6,z7⟩:=cells8 K2
  obtain ⟨f0,f1,f2,f3,f4,f5,f6,f7⟩:=frz8 K2
  have xo:=jZ (fE.put (X:=X) K2 xw)
  have xK:=jZ (eX (g:=w.heap.size+1) (b3) xq (F X.TA X.t.length X.tc) (F X.OA X.o.length X.oc) (O U X.gt) (O U X.sd) (O U X.ms) (wG l.D) (wG l.P) (O U l.n))
  clear K2 b3 hv xw hb c0 c1 c2 c3 c4 c5 c6 c7
  go_wp2_with fail
  refine bodyPost_ret (v:=.tuple #[aJ X l,wG T]) (by simp [results,Tryz.results88,go_sem, *]) rfl (bu.mk hT xo.out xK.out)
 have f0:(s.toList == [103,101,116])=false:=bW h0
 by_cases h1:s=⟨#[109,105,115,115]⟩
 ·subst h1
  have HR:(cZ ⟨#[109,105,115,115]⟩ a b).bind (cc x)=cc x ⟨5,a,b,0⟩:=by unfold cZ; rw [if_neg dD,if_pos rfl]; rfl
  rw [HR]
  clear HR
  have hc:=fun W hW=>fT x l ⟨5,a,b,0⟩ W hW wX
  obtain ⟨R,hR⟩ : ∃ R,cc x ⟨5,a,b,0⟩=R:=⟨_,rfl⟩
  rw [hR] at hc ⊢
  clear hR
  obtain ⟨T,hT⟩ : ∃ T,jN R=T:=⟨_,rfl⟩
  unfold bu at hc
  rw [hT] at hc
  go_enter Tryz.func88,Tryz.ntmps88
  go_upto_region 5 with fail
  generalize ((w.alloc (.cells #[F x.TA x.t.length x.tc,F x.OA x.o.length x.oc,O U x.gt,O U x.sd,O U x.ms,wG l.D,wG l.P,O U l.n] 42)).alloc (.cells #[F none 0 0,F none 0 0,O U 0,O U 0,O U 0,wG ⟨#[]⟩,wG ⟨#[]⟩,O U 0] 42))=W at L1 L2 b2 hW ⊢
  obtain ⟨c0,c1,c2,c3,c4,c5,c6,c7⟩:=cells8 L1
  go_wp2_with fail
  refine (hc W hW).mono ?_
  rintro e W1 ⟨v,rfl,hv,hb⟩
  obtain ⟨X,rfl⟩:=hv.con
  have K2:=L2.below hb L2.lt
  have b3:=b2.trans (hb.mono (b2).size)
  have xw:=hv.lower (b2).size
  obtain ⟨z0,z1,z2,z3,z4,z5,z6,z7⟩:=cells8 K2
  obtain ⟨f0,f1,f2,f3,f4,f5,f6,f7⟩:=frz8 K2
  have xo:=jZ (fE.put (X:=X) K2 xw)
  have xK:=jZ (eX (g:=w.heap.size+1) (b3) xq (F X.TA X.t.length X.tc) (F X.OA X.o.length X.oc) (O U X.gt) (O U X.sd) (O U X.ms) (wG l.D) (wG l.P) (O U l.n))
  clear K2 b3 hv xw hb c0 c1 c2 c3 c4 c5 c6 c7
  go_wp2_with fail
  refine bodyPost_ret (v:=.tuple #[aJ X l,wG T]) (by simp [results,Tryz.results88,go_sem, *]) rfl (bu.mk hT xo.out xK.out)
 have f1:(s.toList == [109,105,115,115])=false:=bW h1
 have HR:Hid ((cZ s a b).bind (cc x)=none):=by unfold Hid cZ; rw [if_neg h0,if_neg h1]; rfl
 clear h0 h1
 go_enter Tryz.func88,Tryz.ntmps88
 go_upto_region 6 with fail
 generalize ((w.alloc (.cells #[F x.TA x.t.length x.tc,F x.OA x.o.length x.oc,O U x.gt,O U x.sd,O U x.ms,wG l.D,wG l.P,O U l.n] 42)).alloc (.cells #[F none 0 0,F none 0 0,O U 0,O U 0,O U 0,wG ⟨#[]⟩,wG ⟨#[]⟩,O U 0] 42))=W at L1 L2 b2 hW ⊢
 obtain ⟨c0,c1,c2,c3,c4,c5,c6,c7⟩:=cells8 L1
 obtain ⟨z0,z1,z2,z3,z4,z5,z6,z7⟩:=cells8 L2
 obtain ⟨f0,f1,f2,f3,f4,f5,f6,f7⟩:=frz8 L2
 have bz:=jZ (eX (g:=w.heap.size+1) (b2) xq (F x.TA x.t.length x.tc) (F x.OA x.o.length x.oc) (O U x.gt) (O U x.sd) (O U x.ms) (wG l.D) (wG l.P) (O U l.n))
 clear L1 L2 b2 hW
 go_wp2
 refine bodyPost_ret (v:=.tuple #[aJ x l,wG ⟨#[63]⟩]) (by simp [results,Tryz.results88,go_sem, *]) rfl (by rw [HR.out]; exact ⟨_,rfl,.inl ⟨rfl,rfl⟩,bz.out⟩)
theorem kK {m:List Int} {rest:List Value} {k:Nat} (h:k < m.length):(bi m++rest)[k]?=some (O U m[k]):=by
 rw [List.getElem?_append_left (by simpa using h),List.getElem?_map,List.getElem?_eq_getElem h]; rfl
set_option maxRecDepth 100000 in
theorem sK (x:aO) (l:Lg) (line:ByteArray) (w:World) (h:aQ w w.heap.size x) (wX:x.t.length≤x.tc) (G:bK x) (hs:line.size≤1000) :
  Calls wH 47 #[aJ x l,wG line] w (bu w x l (iZ x line)):=by
 have L1:=(ai.new w 42 #[F x.TA x.t.length x.tc,F x.OA x.o.length x.oc,O U x.gt,O U x.sd,O U x.ms,wG l.D,wG l.P,O U l.n]).alloc (.cells #[F none 0 0,F none 0 0,O U 0,O U 0,O U 0,wG ⟨#[]⟩,wG ⟨#[]⟩,O U 0] 42)
 have L2:=ai.new1 w (.cells #[F x.TA x.t.length x.tc,F x.OA x.o.length x.oc,O U x.gt,O U x.sd,O U x.ms,wG l.D,wG l.P,O U l.n] 42) 42 #[F none 0 0,F none 0 0,O U 0,O U 0,O U 0,wG ⟨#[]⟩,wG ⟨#[]⟩,O U 0]
 have b1:=bZ w (.cells #[F x.TA x.t.length x.tc,F x.OA x.o.length x.oc,O U x.gt,O U x.sd,O U x.ms,wG l.D,wG l.P,O U l.n] 42)
 have b2:=b1.alloc b1.size (.cells #[F none 0 0,F none 0 0,O U 0,O U 0,O U 0,wG ⟨#[]⟩,wG ⟨#[]⟩,O U 0] 42)
 have hW:=h.up b2 nR
 have xq:w.heap.size≤w.heap.size+1:=oM
 clear b1
 have Fc:=fun W=>jO line 32 W oM
 have Dk:=iU (b:=32) (n:=1000) (s:=bl line) (by rw [an]; exact hs)
 have Bz:=iT (b:=32) (n:=1000) (s:=bl line) (by rw [an]; exact hs)
 have DG:=jZ (fun h=>rr (x:=x) (line:=line) h)
 have Cl:=jZ (fun ns h=>rt (x:=x) (line:=line) (ns:=ns) h)
 have Dl:Hid (wd (bl line) 0=⟨((aI 32 (bl line)).getD 0 []).toArray⟩):=rfl
 have Es:=jZ (wa (l:=bl line))
 obtain ⟨ps,zL⟩ : ∃ ps,aI 32 (bl line)=ps:=⟨_,rfl⟩
 simp only [zL] at Fc Dk Bz DG Cl Dl Es
 have FN:=jZ Bz
 obtain ⟨Ct,Ex⟩:=Dk
 obtain ⟨R,hR⟩ : ∃ R,iZ x line=R:=⟨_,rfl⟩
 rw [hR] at DG Cl ⊢
 obtain ⟨w0,GU⟩ : ∃ w0,wd (bl line) 0=w0:=⟨_,rfl⟩
 rw [GU] at Cl Dl Es
 clear zL Bz hR GU
 go_enter Tryz.func47,Tryz.ntmps47
 go_wp2_with fail
 generalize ((w.alloc (.cells #[F x.TA x.t.length x.tc,F x.OA x.o.length x.oc,O U x.gt,O U x.sd,O U x.ms,wG l.D,wG l.P,O U l.n] 42)).alloc (.cells #[F none 0 0,F none 0 0,O U 0,O U 0,O U 0,wG ⟨#[]⟩,wG ⟨#[]⟩,O U 0] 42))=W at L1 L2 b2 hW ⊢
 generalize w.heap.size+1=gr at L2 xq ⊢
 refine (Fc W).mono ?_
 rintro e w3 ⟨g8,c8,rest,rfl,L8,xu,wZ⟩
 have ha:=(Below.refl w3.heap.size w3).alloc nR (.cells #[] 3)
 have hO:(w3.alloc (.cells #[] 3)).ownsRow W.heap.size 3 1 (F (some ⟨w3.heap.size,0,none⟩) 0 0) 0 []:=dw (ai.new w3 3 #[]) wZ.size
 have S3:=jZ (vr.mk (w:=W) (v:=F (some ⟨w3.heap.size,0,none⟩) 0 0) (m:=[]) (av wZ ha) (L8.below ha L8.lt) hO)
 clear wZ ha hO Fc L8
 have hp1' : (1:Int)≤(ps.length:Int):=oM
 go_wp2_with fail
 generalize w3.alloc (.cells #[] 3)=W3 at S3 ⊢
 generalize w3.heap.size=g3 at S3 ⊢
 go_loopw [7,8,9,10] (fun o i _ _ wr=>∃ (k:Nat) (A:Option Addr) (c:Nat) (m:List Int),1≤k∧k≤ps.length∧i=O U k∧o=F A m.length c∧m.length≤k∧Hid (vr W wr g8 ps rest (F A m.length c) m)∧Hid (gG m (ps.drop k)=dY (ps.drop 1))) (fun _ i _ _ _=>ps.length - (intOf i).toNat)
 case atStart=>exact ⟨1,some ⟨g3,0,none⟩,0,[],Nat.le_refl _,Ct,rfl,rfl,Nat.zero_le _,S3,m6 _⟩
 case round =>
  clear S3
  obtain ⟨k,A,c,m,Av,hk,rfl,rfl,GO,HS,Dm⟩:=hrel
  by_cases wQ:k < ps.length
  ·have zP:(k:Int) < (ps.length:Int):=oM
   have c0:wr.cell? ⟨g8,k,none⟩=some (wG ⟨(ps[k]'wQ).toArray⟩):=by
    rw [HS.out.ws.cell]; exact fU ps _ _ wQ
   have ht:=FN.out (ps[k]'wQ) (List.getElem_mem _)
   obtain ⟨t,Fd⟩ : ∃ t:ByteArray,t=⟨(ps[k]'wQ).toArray⟩:=⟨_,rfl⟩
   have zC:bl t=ps[k]'wQ:=by rw [Fd,bo]
   rw [← Fd] at c0
   have Na:t.size≤1000:=by rw [← an,zC]; exact ht
   clear Fd ht
   have Er:Hid (dh (bl t)=none→dY (ps.drop 1)=none):=fun hn=>by
    rw [← Dm.out]; exact m7 wQ (by rw [← zC]; exact hn)
   have DX:Hid (∀ n,dh (bl t)=some n→gG (m++[n]) (ps.drop (k+1))=dY (ps.drop 1)):=fun n hn=>by
    rw [← Dm.out]; exact (m8 wQ (by rw [← zC]; exact hn)).symm
   have Cm:=fun W=>mA t W oM
   unfold jo at Cm
   obtain ⟨q,hq⟩ : ∃ q,dh (bl t)=q:=⟨_,rfl⟩
   rw [hq] at Er DX Cm
   clear hq zC
   cases q with
   | none =>
    have HE:=jZ (DG.out (Er.out rfl))
    simp only [Option.isSome_none,Option.getD_none] at Cm
    go_wp2_with fail
    refine (Cm _).mono ?_
    rintro e w4 ⟨rfl,wV⟩
    have b5:=av HS.out.bl wV
    have K1:=L1.below b5 L1.lt
    have K2:=L2.below b5 L2.lt
    have b6:=b2.trans (b5.mono b2.size)
    obtain ⟨c0,c1,c2,c3,c4,c5,c6,c7⟩:=cells8 K1
    obtain ⟨z0,z1,z2,z3,z4,z5,z6,z7⟩:=cells8 K2
    obtain ⟨f0,f1,f2,f3,f4,f5,f6,f7⟩:=frz8 K2
    have bz:=jZ (eX (g:=gr) (b6) xq (F x.TA x.t.length x.tc) (F x.OA x.o.length x.oc) (O U x.gt) (O U x.sd) (O U x.ms) (wG l.D) (wG l.P) (O U l.n))
    clear K1 K2 L1 L2 b6 b5 wV HS Dm
    go_wp2_with fail
    refine bodyPost_ret (v:=.tuple #[aJ x l,wG ⟨#[63]⟩]) (by simp [results,Tryz.results47,go_sem, *]) rfl (by rw [HE.out]; exact ⟨_,rfl,.inl ⟨rfl,rfl⟩,bz.out⟩)
   | some n =>
    have HN:=jZ (DX.out n rfl)
    simp only [Option.isSome_some,Option.getD_some] at Cm
    go_wp2_with fail
    refine (Cm _).mono ?_
    rintro e w4 ⟨rfl,wV⟩
    have DR:=jZ (HS.out.then wV)
    have BA:=jZ DR.out.row
    have xQ:W.heap.size≤w4.heap.size:=DR.out.bl.size
    go_wp2_with (at_builtin; refine cF (w0:=w4) rfl _ _ 100 rfl 3 _ 1 8 Tryz.underlying100 iO rfl (by omega) (by omega) W.heap.size _ _ _ rfl BA #[O U n] 1 _ rfl (by first | rfl | exact Array.size_push _) rfl (by simp [Value.oneCell']) (by omega) xQ rfl rfl rfl rfl ?_; intro v6 w6 AM yS xn)
    have Fe:=jZ (DR.out.push (n:=n) AM.out yS xn)
    obtain ⟨A6,c6,GJ⟩:=az AM.out
    subst GJ
    go_wp2
    go_roundw
    case rel=>exact ⟨k+1,A6,c6,m++[n],oM,oM,by go_num,sP,by simp; omega,by rw [Hid]; simpa using Fe.out,HN.out⟩
    case measure=>simp [intOf]; omega
  ·have zP : ¬ (k:Int) < (ps.length:Int):=oM
   have Dn:Hid (dY (ps.drop 1)=some m):=by
    have h1:=Dm.out; rw [List.drop_eq_nil_of_le oM,oq] at h1; exact h1.symm
   have HE:=jZ (Cl.out m Dn.out)
   have b5:=HS.out.bl
   have K1:=L1.below b5 L1.lt
   have K2:=L2.below b5 L2.lt
   have b6:=b2.trans (b5.mono b2.size)
   have Bn:=hW.then b5
   have LW8:=HS.out.ws
   have zk:=HS.out.row
   have c80:wr.cell? ⟨g8,0,none⟩=some (wG w0):=by
    rw [LW8.cell,Dl.out,eM (by omega:0 < ps.length)]; exact fU ps _ _ oM
   have Cn:Hid (ps.length=m.length+1):=by
    have:=pB Dn.out; rw [List.length_drop] at this; rw [Hid]; omega
   clear HS Dm L1 L2 b2 b5 hW DG Cl Dl wQ
   clear FN
   have De:(0:Int) < (ps.length:Int):=oM
   have hpsN:0 < ps.length:=oM
   by_cases e0:m.length=0
   ·have z0:((m.length:Int) == 0)=true:=by rw [e0]; rfl
    have z1:((m.length:Int) == 1)=false:=beq_false_of_ne oM
    have z2:((m.length:Int) == 2)=false:=beq_false_of_ne oM
    have z3:((m.length:Int) == 3)=false:=beq_false_of_ne oM
    have Lx:w0=line:=by
     rw [Es.out (by have:=Cn.out; omega)]; exact (ee rfl).symm
    have yd:=HE.out
    rw [oy e0,Lx] at yd
    have AG:jN R=(dy x line).getD da:=by rw [yd]; exact rv _
    have HO:Hid (fF x R=x.c):=by rw [yd]; exact lS _
    have hc:=fun W hR=>ro x line W hR G
    obtain ⟨T,hT⟩ : ∃ T,(dy x line).getD da=T:=⟨_,rfl⟩
    rw [hT] at hc AG
    have HT:=jZ AG
    clear hT AG yd Lx HE Es Cn Dn
    go_wp2_with fail
    refine al (Sw 5 (fun W9=>Below wr.heap.size wr W9) (fun W9=>Below w.heap.size w W9∧ai W9 gr 42 [F x.TA x.t.length x.tc,F x.OA x.o.length x.oc,O U x.gt,O U x.sd,O U x.ms,wG l.D,wG l.P,O U l.n])) (fun i w1 w2=>i ∉ [5]→Below w1.heap.size w1 w2) kZ kZ kZ (Sw.start jB.drew) ?_
    simp only [ax,Act.put,sA,gs0,gs1,Nat.zero_add,Nat.reduceAdd]
    refine aa _ (vb0C8 K1) ?_
    refine aa _ vb0 ?_
    refine aa _ (vb1C5 1 K1) ?_
    refine aa _ vb0 ?_
    refine aa (wG T) (fun vs L9 w9 wK wI hB K9 wJ=>?_) ?_
    next =>
     replace wI:=sb wI wK
     have d2:=fe hB 2
     have d3:=fe hB 3
     simp only [d2,d3] at wJ ⊢
     go_simp
     refine (hc w9 (Bn.then wI)).mono ?_
     rintro en w8 ⟨rfl,wL⟩
     exact wJ _ _ rfl (Sw.stay wK kZ dD (wI.trans (wL.mono wI.size))) (fun _=>wL)
    refine aa (undef) (fun vs L9 w9 wK wI hB K9 wJ=>?_) ?_
    next =>
     replace wI:=wI.here wK
     have d0:=fe hB 0
     simp only [d0] at wJ ⊢
     have Lr:=K2.below wI K2.lt
     obtain ⟨z0,z1,z2,z3,z4,z5,z6,z7⟩:=cells8 Lr
     obtain ⟨f0,f1,f2,f3,f4,f5,f6,f7⟩:=frz8 Lr
     have xo:=jZ (show ai _ gr 42 [F x.TA x.t.length x.tc,F x.OA x.o.length x.oc,O U x.gt,O U x.sd,O U x.ms,wG l.D,wG l.P,O U l.n] from nn (Lr) (F x.TA x.t.length x.tc) (F x.OA x.o.length x.oc) (O U x.gt) (O U x.sd) (O U x.ms) (wG l.D) (wG l.P) (O U l.n))
     have xK:=jZ (eX (g:=gr) ((b6).trans (wI.mono (b6).size)) xq (F x.TA x.t.length x.tc) (F x.OA x.o.length x.oc) (O U x.gt) (O U x.sd) (O U x.ms) (wG l.D) (wG l.P) (O U l.n))
     clear Lr
     go_simp
     exact wJ _ _ rfl (Sw.turn ⟨xK.out,xo.out⟩) nq
    refine aa _ (va1 4) ?_
    refine ar fun vs L9 w9 wS wI hB=>?_
    replace wI:=wI.done wS dD
    have dl:=ag.eq (hB 6 _ rfl rfl dD)
    simp only [dl]
    clear hB dl
    obtain ⟨hD,hN⟩:=wI
    obtain ⟨k0,k1,k2,k3,k4,k5,k6,k7⟩:=cells8 hN
    clear hN
    go_wp2
    refine bodyPost_ret (v:=.tuple #[aJ x l,wG T]) (by simp [results,Tryz.results47,go_sem, *]) rfl (bu.mk HT.out (.inl ⟨rfl,HO.out⟩) hD)
   by_cases e1:m.length=1
   ·have z0:((m.length:Int) == 0)=false:=beq_false_of_ne oM
    have z1:((m.length:Int) == 1)=true:=by rw [e1]; rfl
    have z2:((m.length:Int) == 2)=false:=beq_false_of_ne oM
    have z3:((m.length:Int) == 3)=false:=beq_false_of_ne oM
    have Ff:(0:Int) < (m.length:Int):=oM
    have yK:0 < m.length:=oM
    obtain ⟨gN,cN,rN,hv,_,LN,_⟩:=ch zk oM
    injection hv with ea eb ec
    subst ea; subst ec
    clear eb
    have d0n:wr.cell? ⟨gN,0,none⟩=some (O U (m[0]'yK)):=by rw [LN.cell]; exact kK yK
    obtain ⟨a0,Ab⟩ : ∃ a,m[0]'yK=a:=⟨_,rfl⟩
    rw [Ab] at d0n
    have yd:=HE.out
    rw [tF e1 yK,Ab] at yd
    have AG:jN R=(gV x w0 a0).getD da:=by rw [yd]; exact rv _
    have HO:Hid (fF x R=x.c):=by rw [yd]; exact lS _
    have hc:=fun W hR=>sG x l w0 a0 W hR G
    obtain ⟨T,hT⟩ : ∃ T,(gV x w0 a0).getD da=T:=⟨_,rfl⟩
    rw [hT] at hc AG
    have HT:=jZ AG
    clear hT AG yd HE Es Cn Dn Ab
    go_wp2_with fail
    refine al (Sw 10 (fun W9=>Below wr.heap.size wr W9) (fun W9=>Below w.heap.size w W9∧ai W9 gr 42 [F x.TA x.t.length x.tc,F x.OA x.o.length x.oc,O U x.gt,O U x.sd,O U x.ms,wG l.D,wG l.P,O U l.n])) (fun i w1 w2=>i ∉ [10]→Below w1.heap.size w1 w2) kZ kZ kZ (Sw.start jB.drew) ?_
    simp only [ax,Act.put,sA,gs0,gs1,Nat.zero_add,Nat.reduceAdd]
    refine aa _ (vb0C8 K1) ?_
    refine aa _ vb0 ?_
    refine aa _ (vb1 1) ?_
    apply aa
    case h1 =>
     intro vs L9 w9 wK wI hB K9 wJ
     replace wI:=sb wI wK
     have d2:=fe hB 2
     simp only [d2] at wJ ⊢
     have q0:w9.cell? ⟨g8,0,none⟩=some (wG w0):=(wI.cell LW8.lt).trans c80
     simp only [Act.put,sA,gs0,gs1] at wJ
     go_simp
     exact wJ _ _ rfl (sy wK wI) bR
    refine aa _ vb0 ?_
    refine aa _ (vb1 4) ?_
    apply aa
    case h1 =>
     intro vs L9 w9 wK wI hB K9 wJ
     replace wI:=sb wI wK
     have d5:=fe hB 5
     simp only [d5] at wJ ⊢
     have q0:w9.cell? ⟨gN,0,none⟩=some (O U a0):=(wI.cell LN.lt).trans d0n
     simp only [Act.put,sA,gs0,gs1] at wJ
     go_simp
     exact wJ _ _ rfl (sy wK wI) bR
    refine aa (.tuple #[.agg #[F x.TA x.t.length x.tc,F x.OA x.o.length x.oc,O U x.gt,O U x.sd,O U x.ms,wG l.D,wG l.P,O U l.n],wG T]) (fun vs L9 w9 wK wI hB K9 wJ=>?_) ?_
    next =>
     replace wI:=sb wI wK
     have d0:=fe hB 0
     have d3:=fe hB 3
     have d6:=fe hB 6
     simp only [d0,d3,d6] at wJ ⊢
     go_simp
     refine (hc w9 (Bn.then wI)).mono ?_
     rintro en w8 ⟨rfl,wL⟩
     exact wJ _ _ rfl (Sw.stay wK kZ dD (wI.trans (wL.mono wI.size))) (fun _=>wL)
    refine aa _ (vb1 7) ?_
    refine aa _ (vb1 7) ?_
    refine aa (undef) (fun vs L9 w9 wK wI hB K9 wJ=>?_) ?_
    next =>
     replace wI:=wI.here wK
     have d8:=fe hB 8
     simp only [d8] at wJ ⊢
     have Lr:=K2.below wI K2.lt
     obtain ⟨z0,z1,z2,z3,z4,z5,z6,z7⟩:=cells8 Lr
     obtain ⟨f0,f1,f2,f3,f4,f5,f6,f7⟩:=frz8 Lr
     have xo:=jZ (show ai _ gr 42 [F x.TA x.t.length x.tc,F x.OA x.o.length x.oc,O U x.gt,O U x.sd,O U x.ms,wG l.D,wG l.P,O U l.n] from nn (Lr) (F x.TA x.t.length x.tc) (F x.OA x.o.length x.oc) (O U x.gt) (O U x.sd) (O U x.ms) (wG l.D) (wG l.P) (O U l.n))
     have xK:=jZ (eX (g:=gr) ((b6).trans (wI.mono (b6).size)) xq (F x.TA x.t.length x.tc) (F x.OA x.o.length x.oc) (O U x.gt) (O U x.sd) (O U x.ms) (wG l.D) (wG l.P) (O U l.n))
     clear Lr
     go_simp
     exact wJ _ _ rfl (Sw.turn ⟨xK.out,xo.out⟩) nq
    refine aa _ (va1 9) ?_
    refine ar fun vs L9 w9 wS wI hB=>?_
    replace wI:=wI.done wS dD
    have dl:=ag.eq (hB 11 _ rfl rfl dD)
    simp only [dl]
    clear hB dl
    obtain ⟨hD,hN⟩:=wI
    obtain ⟨k0,k1,k2,k3,k4,k5,k6,k7⟩:=cells8 hN
    clear hN
    go_wp2
    refine bodyPost_ret (v:=.tuple #[aJ x l,wG T]) (by simp [results,Tryz.results47,go_sem, *]) rfl (bu.mk HT.out (.inl ⟨rfl,HO.out⟩) hD)
   by_cases e2:m.length=2
   ·have z0:((m.length:Int) == 0)=false:=beq_false_of_ne oM
    have z1:((m.length:Int) == 1)=false:=beq_false_of_ne oM
    have z2:((m.length:Int) == 2)=true:=by rw [e2]; rfl
    have z3:((m.length:Int) == 3)=false:=beq_false_of_ne oM
    have Ff:(0:Int) < (m.length:Int):=oM
    have yK:0 < m.length:=oM
    have GV:(1:Int) < (m.length:Int):=oM
    have zv:1 < m.length:=oM
    obtain ⟨gN,cN,rN,hv,_,LN,_⟩:=ch zk oM
    injection hv with ea eb ec
    subst ea; subst ec
    clear eb
    have d0n:wr.cell? ⟨gN,0,none⟩=some (O U (m[0]'yK)):=by rw [LN.cell]; exact kK yK
    have d1n:wr.cell? ⟨gN,1,none⟩=some (O U (m[1]'zv)):=by rw [LN.cell]; exact kK zv
    obtain ⟨a0,Ab⟩ : ∃ a,m[0]'yK=a:=⟨_,rfl⟩
    rw [Ab] at d0n
    obtain ⟨a1,Bc⟩ : ∃ a,m[1]'zv=a:=⟨_,rfl⟩
    rw [Bc] at d1n
    have yd:=HE.out
    rw [vQ e2 yK zv,Ab,Bc] at yd
    have hc:=fun W hR=>sJ x l w0 a0 a1 W hR wX
    rw [← yd] at hc
    obtain ⟨T,hT⟩ : ∃ T,jN R=T:=⟨_,rfl⟩
    unfold bu at hc
    rw [hT] at hc
    have HT:=jZ hT
    clear hT yd HE Es Cn Dn Ab Bc
    go_wp2_with fail
    refine al (Sw 13 (fun W9=>Below wr.heap.size wr W9) (fun W9=>Below w.heap.size w W9∧jU W9 w.heap.size gr x l (fF x R))) (fun i w1 w2=>i ∉ [13]→Below w1.heap.size w1 w2) kZ kZ kZ (Sw.start jB.drew) ?_
    simp only [ax,Act.put,sA,gs0,gs1,Nat.zero_add,Nat.reduceAdd]
    refine aa _ (vb0C8 K1) ?_
    refine aa _ vb0 ?_
    refine aa _ (vb1 1) ?_
    apply aa
    case h1 =>
     intro vs L9 w9 wK wI hB K9 wJ
     replace wI:=sb wI wK
     have d2:=fe hB 2
     simp only [d2] at wJ ⊢
     have q0:w9.cell? ⟨g8,0,none⟩=some (wG w0):=(wI.cell LW8.lt).trans c80
     simp only [Act.put,sA,gs0,gs1] at wJ
     go_simp
     exact wJ _ _ rfl (sy wK wI) bR
    refine aa _ vb0 ?_
    refine aa _ (vb1 4) ?_
    apply aa
    case h1 =>
     intro vs L9 w9 wK wI hB K9 wJ
     replace wI:=sb wI wK
     have d5:=fe hB 5
     simp only [d5] at wJ ⊢
     have q0:w9.cell? ⟨gN,0,none⟩=some (O U a0):=(wI.cell LN.lt).trans d0n
     simp only [Act.put,sA,gs0,gs1] at wJ
     go_simp
     exact wJ _ _ rfl (sy wK wI) bR
    refine aa _ vb0 ?_
    refine aa _ (vb1 7) ?_
    apply aa
    case h1 =>
     intro vs L9 w9 wK wI hB K9 wJ
     replace wI:=sb wI wK
     have d8:=fe hB 8
     simp only [d8] at wJ ⊢
     have q0:w9.cell? ⟨gN,1,none⟩=some (O U a1):=(wI.cell LN.lt).trans d1n
     simp only [Act.put,sA,gs0,gs1] at wJ
     go_simp
     exact wJ _ _ rfl (sy wK wI) bR
    refine sm [13] (fun v w9=>∃ X:aO,v=.tuple #[aJ X l,wG T]∧fE w9 w.heap.size x l (fF x R) (aJ X l)) (fun vs L9 w9 wK wI hB K9 wJ=>?_) ?_
    next =>
     replace wI:=sb wI wK
     have d0:=fe hB 0
     have d3:=fe hB 3
     have d6:=fe hB 6
     have d9:=fe hB 9
     simp only [d0,d3,d6,d9] at wJ ⊢
     simp only [Act.put,sA,gs0,gs1] at wJ
     go_simp
     refine (hc w9 (Bn.then wI)).mono ?_
     rintro en w8 ⟨v,rfl,hv,wL⟩
     obtain ⟨X,rfl⟩:=hv.con
     exact wJ _ _ _ rfl ⟨X,rfl,hv.lower (jT b6.size wI.size)⟩ (Sw.stay wK kZ dD (wI.trans (wL.mono wI.size))) (fun _=>wL)
    refine sm [13] (fun v w9=>∃ X:aO,v=aJ X l∧fE w9 w.heap.size x l (fF x R) (aJ X l)) (fun vs L9 w9 wK wI hB K9 wJ=>?_) ?_
    next =>
     replace wI:=sb wI wK
     simp only [Act.put,sA,gs0,gs1] at wJ
     obtain ⟨X,e0,hq⟩:=fs hB 10
     simp only [e0] at wJ ⊢
     go_simp
     exact wJ _ _ _ rfl ⟨X,rfl,hq⟩ (sy wK wI) bR
    refine aa (wG T) (fun vs L9 w9 wK wI hB K9 wJ=>?_) ?_
    next =>
     replace wI:=sb wI wK
     obtain ⟨X,e0,hq⟩:=fs hB 10
     simp only [e0] at wJ ⊢
     go_simp
     exact wJ _ _ rfl (sy wK wI) bR
    refine aa (undef) (fun vs L9 w9 wK wI hB K9 wJ=>?_) ?_
    next =>
     replace wI:=wI.here wK
     obtain ⟨X,e0,hq⟩:=fs hB 11
     simp only [e0] at wJ ⊢
     have Lr:=K2.below wI K2.lt
     obtain ⟨z0,z1,z2,z3,z4,z5,z6,z7⟩:=cells8 Lr
     obtain ⟨f0,f1,f2,f3,f4,f5,f6,f7⟩:=frz8 Lr
     have xo:=jZ (jU.put (X:=X) Lr hq)
     have xK:=jZ (eX (g:=gr) (b6.trans (wI.mono b6.size)) xq (F X.TA X.t.length X.tc) (F X.OA X.o.length X.oc) (O U X.gt) (O U X.sd) (O U X.ms) (wG l.D) (wG l.P) (O U l.n))
     clear Lr hq
     go_simp
     exact wJ _ _ rfl (Sw.turn ⟨xK.out,xo.out⟩) nq
    refine aa _ (va1 12) ?_
    refine ar fun vs L9 w9 wS wI hB=>?_
    replace wI:=wI.done wS dD
    have dl:=ag.eq (hB 14 _ rfl rfl dD)
    simp only [dl]
    clear hB dl
    obtain ⟨hD,X,hN,hV⟩:=wI
    obtain ⟨k0,k1,k2,k3,k4,k5,k6,k7⟩:=cells8 hN
    clear hN
    go_wp2
    refine bodyPost_ret (v:=.tuple #[aJ X l,wG T]) (by simp [results,Tryz.results47,go_sem, *]) rfl (bu.mk HT.out hV hD)
   by_cases e3:m.length=3
   ·have z0:((m.length:Int) == 0)=false:=beq_false_of_ne oM
    have z1:((m.length:Int) == 1)=false:=beq_false_of_ne oM
    have z2:((m.length:Int) == 2)=false:=beq_false_of_ne oM
    have z3:((m.length:Int) == 3)=true:=by rw [e3]; rfl
    have Ff:(0:Int) < (m.length:Int):=oM
    have yK:0 < m.length:=oM
    have GV:(1:Int) < (m.length:Int):=oM
    have zv:1 < m.length:=oM
    have IA:(2:Int) < (m.length:Int):=oM
    have Df:2 < m.length:=oM
    obtain ⟨gN,cN,rN,hv,_,LN,_⟩:=ch zk oM
    injection hv with ea eb ec
    subst ea; subst ec
    clear eb
    have d0n:wr.cell? ⟨gN,0,none⟩=some (O U (m[0]'yK)):=by rw [LN.cell]; exact kK yK
    have d1n:wr.cell? ⟨gN,1,none⟩=some (O U (m[1]'zv)):=by rw [LN.cell]; exact kK zv
    have d2n:wr.cell? ⟨gN,2,none⟩=some (O U (m[2]'Df)):=by rw [LN.cell]; exact kK Df
    obtain ⟨a0,Ab⟩ : ∃ a,m[0]'yK=a:=⟨_,rfl⟩
    rw [Ab] at d0n
    obtain ⟨a1,Bc⟩ : ∃ a,m[1]'zv=a:=⟨_,rfl⟩
    rw [Bc] at d1n
    obtain ⟨a2,zT⟩ : ∃ a,m[2]'Df=a:=⟨_,rfl⟩
    rw [zT] at d2n
    have yd:=HE.out
    rw [ut e3 yK zv Df,Ab,Bc,zT] at yd
    clear Ab Bc zT HE Es Cn Dn
    by_cases h0:w0=⟨#[115,104,111,119]⟩
    ·subst h0
     have BC:R=cc x ⟨2,a0,a1,a2⟩:=by rw [yd]; unfold dB; rw [if_pos rfl]; rfl
     have hc:=fun W hR=>fT x l ⟨2,a0,a1,a2⟩ W hR wX
     rw [← BC] at hc
     obtain ⟨T,hT⟩ : ∃ T,jN R=T:=⟨_,rfl⟩
     unfold bu at hc
     rw [hT] at hc
     have HT:=jZ hT
     clear hT yd BC
     go_wp2_with fail
     refine al (Sw 14 (fun W9=>Below wr.heap.size wr W9) (fun W9=>Below w.heap.size w W9∧jU W9 w.heap.size gr x l (fF x R))) (fun i w1 w2=>i ∉ [14]→Below w1.heap.size w1 w2) kZ kZ kZ (Sw.start jB.drew) ?_
     simp only [ax,Act.put,sA,gs0,gs1,Nat.zero_add,Nat.reduceAdd]
     refine aa _ (vb0C8 K1) ?_
     refine aa _ vb0 ?_
     refine aa _ (vb1 1) ?_
     apply aa
     case h1 =>
      intro vs L9 w9 wK wI hB K9 wJ
      replace wI:=sb wI wK
      have d2:=fe hB 2
      simp only [d2] at wJ ⊢
      have q0:w9.cell? ⟨gN,0,none⟩=some (O U a0):=(wI.cell LN.lt).trans d0n
      simp only [Act.put,sA,gs0,gs1] at wJ
      go_simp
      exact wJ _ _ rfl (sy wK wI) bR
     refine aa _ vb0 ?_
     refine aa _ (vb1 4) ?_
     apply aa
     case h1 =>
      intro vs L9 w9 wK wI hB K9 wJ
      replace wI:=sb wI wK
      have d5:=fe hB 5
      simp only [d5] at wJ ⊢
      have q0:w9.cell? ⟨gN,1,none⟩=some (O U a1):=(wI.cell LN.lt).trans d1n
      simp only [Act.put,sA,gs0,gs1] at wJ
      go_simp
      exact wJ _ _ rfl (sy wK wI) bR
     refine aa _ vb0 ?_
     refine aa _ (vb1 7) ?_
     apply aa
     case h1 =>
      intro vs L9 w9 wK wI hB K9 wJ
      replace wI:=sb wI wK
      have d8:=fe hB 8
      simp only [d8] at wJ ⊢
      have q0:w9.cell? ⟨gN,2,none⟩=some (O U a2):=(wI.cell LN.lt).trans d2n
      simp only [Act.put,sA,gs0,gs1] at wJ
      go_simp
      exact wJ _ _ rfl (sy wK wI) bR
     refine aa _ (vb3 3 6 9) ?_
     refine sm [14] (fun v w9=>∃ X:aO,v=.tuple #[aJ X l,wG T]∧fE w9 w.heap.size x l (fF x R) (aJ X l)) (fun vs L9 w9 wK wI hB K9 wJ=>?_) ?_
     next =>
      replace wI:=sb wI wK
      have d0:=fe hB 0
      have d10:=fe hB 10
      simp only [d0,d10] at wJ ⊢
      simp only [Act.put,sA,gs0,gs1] at wJ
      go_simp
      refine (hc w9 (Bn.then wI)).mono ?_
      rintro en w8 ⟨v,rfl,hv,wL⟩
      obtain ⟨X,rfl⟩:=hv.con
      exact wJ _ _ _ rfl ⟨X,rfl,hv.lower (jT b6.size wI.size)⟩ (Sw.stay wK kZ dD (wI.trans (wL.mono wI.size))) (fun _=>wL)
     refine sm [14] (fun v w9=>∃ X:aO,v=aJ X l∧fE w9 w.heap.size x l (fF x R) (aJ X l)) (fun vs L9 w9 wK wI hB K9 wJ=>?_) ?_
     next =>
      replace wI:=sb wI wK
      simp only [Act.put,sA,gs0,gs1] at wJ
      obtain ⟨X,e0,hq⟩:=fs hB 11
      simp only [e0] at wJ ⊢
      go_simp
      exact wJ _ _ _ rfl ⟨X,rfl,hq⟩ (sy wK wI) bR
     refine aa (wG T) (fun vs L9 w9 wK wI hB K9 wJ=>?_) ?_
     next =>
      replace wI:=sb wI wK
      obtain ⟨X,e0,hq⟩:=fs hB 11
      simp only [e0] at wJ ⊢
      go_simp
      exact wJ _ _ rfl (sy wK wI) bR
     refine aa (undef) (fun vs L9 w9 wK wI hB K9 wJ=>?_) ?_
     next =>
      replace wI:=wI.here wK
      obtain ⟨X,e0,hq⟩:=fs hB 12
      simp only [e0] at wJ ⊢
      have Lr:=K2.below wI K2.lt
      obtain ⟨z0,z1,z2,z3,z4,z5,z6,z7⟩:=cells8 Lr
      obtain ⟨f0,f1,f2,f3,f4,f5,f6,f7⟩:=frz8 Lr
      have xo:=jZ (jU.put (X:=X) Lr hq)
      have xK:=jZ (eX (g:=gr) (b6.trans (wI.mono b6.size)) xq (F X.TA X.t.length X.tc) (F X.OA X.o.length X.oc) (O U X.gt) (O U X.sd) (O U X.ms) (wG l.D) (wG l.P) (O U l.n))
      clear Lr hq
      go_simp
      exact wJ _ _ rfl (Sw.turn ⟨xK.out,xo.out⟩) nq
     refine aa _ (va1 13) ?_
     refine ar fun vs L9 w9 wS wI hB=>?_
     replace wI:=wI.done wS dD
     have dl:=ag.eq (hB 15 _ rfl rfl dD)
     simp only [dl]
     clear hB dl
     obtain ⟨hD,X,hN,hV⟩:=wI
     obtain ⟨k0,k1,k2,k3,k4,k5,k6,k7⟩:=cells8 hN
     clear hN
     go_wp2
     refine bodyPost_ret (v:=.tuple #[aJ X l,wG T]) (by simp [results,Tryz.results47,go_sem, *]) rfl (bu.mk HT.out hV hD)
    have f0:(w0.toList == [115,104,111,119])=false:=bW h0
    by_cases h1:w0=⟨#[98,97,99,107]⟩
    ·subst h1
     have BC:R=cc x ⟨3,a0,a1,a2⟩:=by rw [yd]; unfold dB; rw [if_neg dD,if_pos rfl]; rfl
     have hc:=fun W hR=>fT x l ⟨3,a0,a1,a2⟩ W hR wX
     rw [← BC] at hc
     obtain ⟨T,hT⟩ : ∃ T,jN R=T:=⟨_,rfl⟩
     unfold bu at hc
     rw [hT] at hc
     have HT:=jZ hT
     clear hT yd BC
     go_wp2_with fail
     refine al (Sw 14 (fun W9=>Below wr.heap.size wr W9) (fun W9=>Below w.heap.size w W9∧jU W9 w.heap.size gr x l (fF x R))) (fun i w1 w2=>i ∉ [14]→Below w1.heap.size w1 w2) kZ kZ kZ (Sw.start jB.drew) ?_
     simp only [ax,Act.put,sA,gs0,gs1,Nat.zero_add,Nat.reduceAdd]
     refine aa _ (vb0C8 K1) ?_
     refine aa _ vb0 ?_
     refine aa _ (vb1 1) ?_
     apply aa
     case h1 =>
      intro vs L9 w9 wK wI hB K9 wJ
      replace wI:=sb wI wK
      have d2:=fe hB 2
      simp only [d2] at wJ ⊢
      have q0:w9.cell? ⟨gN,0,none⟩=some (O U a0):=(wI.cell LN.lt).trans d0n
      simp only [Act.put,sA,gs0,gs1] at wJ
      go_simp
      exact wJ _ _ rfl (sy wK wI) bR
     refine aa _ vb0 ?_
     refine aa _ (vb1 4) ?_
     apply aa
     case h1 =>
      intro vs L9 w9 wK wI hB K9 wJ
      replace wI:=sb wI wK
      have d5:=fe hB 5
      simp only [d5] at wJ ⊢
      have q0:w9.cell? ⟨gN,1,none⟩=some (O U a1):=(wI.cell LN.lt).trans d1n
      simp only [Act.put,sA,gs0,gs1] at wJ
      go_simp
      exact wJ _ _ rfl (sy wK wI) bR
     refine aa _ vb0 ?_
     refine aa _ (vb1 7) ?_
     apply aa
     case h1 =>
      intro vs L9 w9 wK wI hB K9 wJ
      replace wI:=sb wI wK
      have d8:=fe hB 8
      simp only [d8] at wJ ⊢
      have q0:w9.cell? ⟨gN,2,none⟩=some (O U a2):=(wI.cell LN.lt).trans d2n
      simp only [Act.put,sA,gs0,gs1] at wJ
      go_simp
      exact wJ _ _ rfl (sy wK wI) bR
     refine aa _ (vb3 3 6 9) ?_
     refine sm [14] (fun v w9=>∃ X:aO,v=.tuple #[aJ X l,wG T]∧fE w9 w.heap.size x l (fF x R) (aJ X l)) (fun vs L9 w9 wK wI hB K9 wJ=>?_) ?_
     next =>
      replace wI:=sb wI wK
      have d0:=fe hB 0
      have d10:=fe hB 10
      simp only [d0,d10] at wJ ⊢
      simp only [Act.put,sA,gs0,gs1] at wJ
      go_simp
      refine (hc w9 (Bn.then wI)).mono ?_
      rintro en w8 ⟨v,rfl,hv,wL⟩
      obtain ⟨X,rfl⟩:=hv.con
      exact wJ _ _ _ rfl ⟨X,rfl,hv.lower (jT b6.size wI.size)⟩ (Sw.stay wK kZ dD (wI.trans (wL.mono wI.size))) (fun _=>wL)
     refine sm [14] (fun v w9=>∃ X:aO,v=aJ X l∧fE w9 w.heap.size x l (fF x R) (aJ X l)) (fun vs L9 w9 wK wI hB K9 wJ=>?_) ?_
     next =>
      replace wI:=sb wI wK
      simp only [Act.put,sA,gs0,gs1] at wJ
      obtain ⟨X,e0,hq⟩:=fs hB 11
      simp only [e0] at wJ ⊢
      go_simp
      exact wJ _ _ _ rfl ⟨X,rfl,hq⟩ (sy wK wI) bR
     refine aa (wG T) (fun vs L9 w9 wK wI hB K9 wJ=>?_) ?_
     next =>
      replace wI:=sb wI wK
      obtain ⟨X,e0,hq⟩:=fs hB 11
      simp only [e0] at wJ ⊢
      go_simp
      exact wJ _ _ rfl (sy wK wI) bR
     refine aa (undef) (fun vs L9 w9 wK wI hB K9 wJ=>?_) ?_
     next =>
      replace wI:=wI.here wK
      obtain ⟨X,e0,hq⟩:=fs hB 12
      simp only [e0] at wJ ⊢
      have Lr:=K2.below wI K2.lt
      obtain ⟨z0,z1,z2,z3,z4,z5,z6,z7⟩:=cells8 Lr
      obtain ⟨f0,f1,f2,f3,f4,f5,f6,f7⟩:=frz8 Lr
      have xo:=jZ (jU.put (X:=X) Lr hq)
      have xK:=jZ (eX (g:=gr) (b6.trans (wI.mono b6.size)) xq (F X.TA X.t.length X.tc) (F X.OA X.o.length X.oc) (O U X.gt) (O U X.sd) (O U X.ms) (wG l.D) (wG l.P) (O U l.n))
      clear Lr hq
      go_simp
      exact wJ _ _ rfl (Sw.turn ⟨xK.out,xo.out⟩) nq
     refine aa _ (va1 13) ?_
     refine ar fun vs L9 w9 wS wI hB=>?_
     replace wI:=wI.done wS dD
     have dl:=ag.eq (hB 15 _ rfl rfl dD)
     simp only [dl]
     clear hB dl
     obtain ⟨hD,X,hN,hV⟩:=wI
     obtain ⟨k0,k1,k2,k3,k4,k5,k6,k7⟩:=cells8 hN
     clear hN
     go_wp2
     refine bodyPost_ret (v:=.tuple #[aJ X l,wG T]) (by simp [results,Tryz.results47,go_sem, *]) rfl (bu.mk HT.out hV hD)
    have f1:(w0.toList == [98,97,99,107])=false:=bW h1
    by_cases h2:w0=⟨#[115,101,108,108]⟩
    ·subst h2
     have BC:R=cc x ⟨4,a0,a1,a2⟩:=by rw [yd]; unfold dB; rw [if_neg dD,if_neg dD,if_pos rfl]; rfl
     have hc:=fun W hR=>fT x l ⟨4,a0,a1,a2⟩ W hR wX
     rw [← BC] at hc
     obtain ⟨T,hT⟩ : ∃ T,jN R=T:=⟨_,rfl⟩
     unfold bu at hc
     rw [hT] at hc
     have HT:=jZ hT
     clear hT yd BC
     go_wp2_with fail
     refine al (Sw 14 (fun W9=>Below wr.heap.size wr W9) (fun W9=>Below w.heap.size w W9∧jU W9 w.heap.size gr x l (fF x R))) (fun i w1 w2=>i ∉ [14]→Below w1.heap.size w1 w2) kZ kZ kZ (Sw.start jB.drew) ?_
     simp only [ax,Act.put,sA,gs0,gs1,Nat.zero_add,Nat.reduceAdd]
     refine aa _ (vb0C8 K1) ?_
     refine aa _ vb0 ?_
     refine aa _ (vb1 1) ?_
     apply aa
     case h1 =>
      intro vs L9 w9 wK wI hB K9 wJ
      replace wI:=sb wI wK
      have d2:=fe hB 2
      simp only [d2] at wJ ⊢
      have q0:w9.cell? ⟨gN,0,none⟩=some (O U a0):=(wI.cell LN.lt).trans d0n
      simp only [Act.put,sA,gs0,gs1] at wJ
      go_simp
      exact wJ _ _ rfl (sy wK wI) bR
     refine aa _ vb0 ?_
     refine aa _ (vb1 4) ?_
     apply aa
     case h1 =>
      intro vs L9 w9 wK wI hB K9 wJ
      replace wI:=sb wI wK
      have d5:=fe hB 5
      simp only [d5] at wJ ⊢
      have q0:w9.cell? ⟨gN,1,none⟩=some (O U a1):=(wI.cell LN.lt).trans d1n
      simp only [Act.put,sA,gs0,gs1] at wJ
      go_simp
      exact wJ _ _ rfl (sy wK wI) bR
     refine aa _ vb0 ?_
     refine aa _ (vb1 7) ?_
     apply aa
     case h1 =>
      intro vs L9 w9 wK wI hB K9 wJ
      replace wI:=sb wI wK
      have d8:=fe hB 8
      simp only [d8] at wJ ⊢
      have q0:w9.cell? ⟨gN,2,none⟩=some (O U a2):=(wI.cell LN.lt).trans d2n
      simp only [Act.put,sA,gs0,gs1] at wJ
      go_simp
      exact wJ _ _ rfl (sy wK wI) bR
     refine aa _ (vb3 3 6 9) ?_
     refine sm [14] (fun v w9=>∃ X:aO,v=.tuple #[aJ X l,wG T]∧fE w9 w.heap.size x l (fF x R) (aJ X l)) (fun vs L9 w9 wK wI hB K9 wJ=>?_) ?_
     next =>
      replace wI:=sb wI wK
      have d0:=fe hB 0
      have d10:=fe hB 10
      simp only [d0,d10] at wJ ⊢
      simp only [Act.put,sA,gs0,gs1] at wJ
      go_simp
      refine (hc w9 (Bn.then wI)).mono ?_
      rintro en w8 ⟨v,rfl,hv,wL⟩
      obtain ⟨X,rfl⟩:=hv.con
      exact wJ _ _ _ rfl ⟨X,rfl,hv.lower (jT b6.size wI.size)⟩ (Sw.stay wK kZ dD (wI.trans (wL.mono wI.size))) (fun _=>wL)
     refine sm [14] (fun v w9=>∃ X:aO,v=aJ X l∧fE w9 w.heap.size x l (fF x R) (aJ X l)) (fun vs L9 w9 wK wI hB K9 wJ=>?_) ?_
     next =>
      replace wI:=sb wI wK
      simp only [Act.put,sA,gs0,gs1] at wJ
      obtain ⟨X,e0,hq⟩:=fs hB 11
      simp only [e0] at wJ ⊢
      go_simp
      exact wJ _ _ _ rfl ⟨X,rfl,hq⟩ (sy wK wI) bR
     refine aa (wG T) (fun vs L9 w9 wK wI hB K9 wJ=>?_) ?_
     next =>
      replace wI:=sb wI wK
      obtain ⟨X,e0,hq⟩:=fs hB 11
      simp only [e0] at wJ ⊢
      go_simp
      exact wJ _ _ rfl (sy wK wI) bR
     refine aa (undef) (fun vs L9 w9 wK wI hB K9 wJ=>?_) ?_
     next =>
      replace wI:=wI.here wK
      obtain ⟨X,e0,hq⟩:=fs hB 12
      simp only [e0] at wJ ⊢
      have Lr:=K2.below wI K2.lt
      obtain ⟨z0,z1,z2,z3,z4,z5,z6,z7⟩:=cells8 Lr
      obtain ⟨f0,f1,f2,f3,f4,f5,f6,f7⟩:=frz8 Lr
      have xo:=jZ (jU.put (X:=X) Lr hq)
      have xK:=jZ (eX (g:=gr) (b6.trans (wI.mono b6.size)) xq (F X.TA X.t.length X.tc) (F X.OA X.o.length X.oc) (O U X.gt) (O U X.sd) (O U X.ms) (wG l.D) (wG l.P) (O U l.n))
      clear Lr hq
      go_simp
      exact wJ _ _ rfl (Sw.turn ⟨xK.out,xo.out⟩) nq
     refine aa _ (va1 13) ?_
     refine ar fun vs L9 w9 wS wI hB=>?_
     replace wI:=wI.done wS dD
     have dl:=ag.eq (hB 15 _ rfl rfl dD)
     simp only [dl]
     clear hB dl
     obtain ⟨hD,X,hN,hV⟩:=wI
     obtain ⟨k0,k1,k2,k3,k4,k5,k6,k7⟩:=cells8 hN
     clear hN
     go_wp2
     refine bodyPost_ret (v:=.tuple #[aJ X l,wG T]) (by simp [results,Tryz.results47,go_sem, *]) rfl (bu.mk HT.out hV hD)
    have f2:(w0.toList == [115,101,108,108])=false:=bW h2
    by_cases h3:w0=⟨#[109,111,118,101]⟩
    ·subst h3
     have BC:R=cc x ⟨6,a0,a1,a2⟩:=by rw [yd]; unfold dB; rw [if_neg dD,if_neg dD,if_neg dD,if_pos rfl]; rfl
     have hc:=fun W hR=>fT x l ⟨6,a0,a1,a2⟩ W hR wX
     rw [← BC] at hc
     obtain ⟨T,hT⟩ : ∃ T,jN R=T:=⟨_,rfl⟩
     unfold bu at hc
     rw [hT] at hc
     have HT:=jZ hT
     clear hT yd BC
     go_wp2_with fail
     refine al (Sw 14 (fun W9=>Below wr.heap.size wr W9) (fun W9=>Below w.heap.size w W9∧jU W9 w.heap.size gr x l (fF x R))) (fun i w1 w2=>i ∉ [14]→Below w1.heap.size w1 w2) kZ kZ kZ (Sw.start jB.drew) ?_
     simp only [ax,Act.put,sA,gs0,gs1,Nat.zero_add,Nat.reduceAdd]
     refine aa _ (vb0C8 K1) ?_
     refine aa _ vb0 ?_
     refine aa _ (vb1 1) ?_
     apply aa
     case h1 =>
      intro vs L9 w9 wK wI hB K9 wJ
      replace wI:=sb wI wK
      have d2:=fe hB 2
      simp only [d2] at wJ ⊢
      have q0:w9.cell? ⟨gN,0,none⟩=some (O U a0):=(wI.cell LN.lt).trans d0n
      simp only [Act.put,sA,gs0,gs1] at wJ
      go_simp
      exact wJ _ _ rfl (sy wK wI) bR
     refine aa _ vb0 ?_
     refine aa _ (vb1 4) ?_
     apply aa
     case h1 =>
      intro vs L9 w9 wK wI hB K9 wJ
      replace wI:=sb wI wK
      have d5:=fe hB 5
      simp only [d5] at wJ ⊢
      have q0:w9.cell? ⟨gN,1,none⟩=some (O U a1):=(wI.cell LN.lt).trans d1n
      simp only [Act.put,sA,gs0,gs1] at wJ
      go_simp
      exact wJ _ _ rfl (sy wK wI) bR
     refine aa _ vb0 ?_
     refine aa _ (vb1 7) ?_
     apply aa
     case h1 =>
      intro vs L9 w9 wK wI hB K9 wJ
      replace wI:=sb wI wK
      have d8:=fe hB 8
      simp only [d8] at wJ ⊢
      have q0:w9.cell? ⟨gN,2,none⟩=some (O U a2):=(wI.cell LN.lt).trans d2n
      simp only [Act.put,sA,gs0,gs1] at wJ
      go_simp
      exact wJ _ _ rfl (sy wK wI) bR
     refine aa _ (vb3 3 6 9) ?_
     refine sm [14] (fun v w9=>∃ X:aO,v=.tuple #[aJ X l,wG T]∧fE w9 w.heap.size x l (fF x R) (aJ X l)) (fun vs L9 w9 wK wI hB K9 wJ=>?_) ?_
     next =>
      replace wI:=sb wI wK
      have d0:=fe hB 0
      have d10:=fe hB 10
      simp only [d0,d10] at wJ ⊢
      simp only [Act.put,sA,gs0,gs1] at wJ
      go_simp
      refine (hc w9 (Bn.then wI)).mono ?_
      rintro en w8 ⟨v,rfl,hv,wL⟩
      obtain ⟨X,rfl⟩:=hv.con
      exact wJ _ _ _ rfl ⟨X,rfl,hv.lower (jT b6.size wI.size)⟩ (Sw.stay wK kZ dD (wI.trans (wL.mono wI.size))) (fun _=>wL)
     refine sm [14] (fun v w9=>∃ X:aO,v=aJ X l∧fE w9 w.heap.size x l (fF x R) (aJ X l)) (fun vs L9 w9 wK wI hB K9 wJ=>?_) ?_
     next =>
      replace wI:=sb wI wK
      simp only [Act.put,sA,gs0,gs1] at wJ
      obtain ⟨X,e0,hq⟩:=fs hB 11
      simp only [e0] at wJ ⊢
      go_simp
      exact wJ _ _ _ rfl ⟨X,rfl,hq⟩ (sy wK wI) bR
     refine aa (wG T) (fun vs L9 w9 wK wI hB K9 wJ=>?_) ?_
     next =>
      replace wI:=sb wI wK
      obtain ⟨X,e0,hq⟩:=fs hB 11
      simp only [e0] at wJ ⊢
      go_simp
      exact wJ _ _ rfl (sy wK wI) bR
     refine aa (undef) (fun vs L9 w9 wK wI hB K9 wJ=>?_) ?_
     next =>
      replace wI:=wI.here wK
      obtain ⟨X,e0,hq⟩:=fs hB 12
      simp only [e0] at wJ ⊢
      have Lr:=K2.below wI K2.lt
      obtain ⟨z0,z1,z2,z3,z4,z5,z6,z7⟩:=cells8 Lr
      obtain ⟨f0,f1,f2,f3,f4,f5,f6,f7⟩:=frz8 Lr
      have xo:=jZ (jU.put (X:=X) Lr hq)
      have xK:=jZ (eX (g:=gr) (b6.trans (wI.mono b6.size)) xq (F X.TA X.t.length X.tc) (F X.OA X.o.length X.oc) (O U X.gt) (O U X.sd) (O U X.ms) (wG l.D) (wG l.P) (O U l.n))
      clear Lr hq
      go_simp
      exact wJ _ _ rfl (Sw.turn ⟨xK.out,xo.out⟩) nq
     refine aa _ (va1 13) ?_
     refine ar fun vs L9 w9 wS wI hB=>?_
     replace wI:=wI.done wS dD
     have dl:=ag.eq (hB 15 _ rfl rfl dD)
     simp only [dl]
     clear hB dl
     obtain ⟨hD,X,hN,hV⟩:=wI
     obtain ⟨k0,k1,k2,k3,k4,k5,k6,k7⟩:=cells8 hN
     clear hN
     go_wp2
     refine bodyPost_ret (v:=.tuple #[aJ X l,wG T]) (by simp [results,Tryz.results47,go_sem, *]) rfl (bu.mk HT.out hV hD)
    have f3:(w0.toList == [109,111,118,101])=false:=bW h3
    have BC:Hid (R=none):=by rw [Hid,yd]; unfold dB; rw [if_neg h0,if_neg h1,if_neg h2,if_neg h3]; rfl
    clear h0 h1 h2 h3 yd
    obtain ⟨c0,c1,c2,c3,c4,c5,c6,c7⟩:=cells8 K1
    obtain ⟨z0,z1,z2,z3,z4,z5,z6,z7⟩:=cells8 K2
    obtain ⟨ff0,ff1,ff2,ff3,ff4,ff5,ff6,ff7⟩:=frz8 K2
    have bz:=jZ (eX (g:=gr) (b6) xq (F x.TA x.t.length x.tc) (F x.OA x.o.length x.oc) (O U x.gt) (O U x.sd) (O U x.ms) (wG l.D) (wG l.P) (O U l.n))
    clear K1 K2 b6
    go_wp2_with fail
    refine bodyPost_ret (v:=.tuple #[aJ x l,wG ⟨#[63]⟩]) (by simp [results,Tryz.results47,go_sem, *]) rfl (by rw [BC.out]; exact ⟨_,rfl,.inl ⟨rfl,rfl⟩,bz.out⟩)
   have z0:((m.length:Int) == 0)=false:=beq_false_of_ne oM
   have z1:((m.length:Int) == 1)=false:=beq_false_of_ne oM
   have z2:((m.length:Int) == 2)=false:=beq_false_of_ne oM
   have z3:((m.length:Int) == 3)=false:=beq_false_of_ne oM
   have BC:Hid (R=none):=by rw [Hid,HE.out]; exact ru oM
   clear HE Es Cn Dn
   obtain ⟨c0,c1,c2,c3,c4,c5,c6,c7⟩:=cells8 K1
   obtain ⟨z0,z1,z2,z3,z4,z5,z6,z7⟩:=cells8 K2
   obtain ⟨ff0,ff1,ff2,ff3,ff4,ff5,ff6,ff7⟩:=frz8 K2
   have bz:=jZ (eX (g:=gr) (b6) xq (F x.TA x.t.length x.tc) (F x.OA x.o.length x.oc) (O U x.gt) (O U x.sd) (O U x.ms) (wG l.D) (wG l.P) (O U l.n))
   clear K1 K2 b6
   go_wp2_with fail
   refine bodyPost_ret (v:=.tuple #[aJ x l,wG ⟨#[63]⟩]) (by simp [results,Tryz.results47,go_sem, *]) rfl (by rw [BC.out]; exact ⟨_,rfl,.inl ⟨rfl,rfl⟩,bz.out⟩)
end Go.Proofs.YtoeoimhemojdeaaGreatDoor
