/- Rs02: the texts OffTo OffSpec OffSpec2 OffSpec3 OffSpec4 OffImpl1 OffImpl2 OffImpl3 OffImpl4 OffIn Own Cat, joined into one file. -/
import Derived.Deep.RegionHeld3
import Derived.OwnWalk
import Derived.Maps.AppendAt
import Derived.Test.YtoeoimhemojdeaaGreatDoorRs01

set_option linter.unusedVariables false
open Go.Value renaming int → O, slice → F, string → uk
open Go.IntKind renaming i64 → U

namespace Go.Proofs.YtoeoimhemojdeaaGreatDoor
open Go.RowKit
structure mp (B:Nat) (w:World) (b:Nat) (x:aL):Prop where
 c0:∀ p:an B w,p.val.cell? ⟨b,0,none⟩=some (F x.TA x.t.length x.tc)
 c1:∀ p:an B w,p.val.cell? ⟨b,1,none⟩=some (F x.OA x.o.length x.oc)
 c2:∀ p:an B w,p.val.cell? ⟨b,2,none⟩=some (O U x.got)
 c3:∀ p:an B w,p.val.cell? ⟨b,3,none⟩=some (O U x.sold)
 c4:∀ p:an B w,p.val.cell? ⟨b,4,none⟩=some (O U x.missed)
theorem mp.of {W:World} {g:Nat} {t:TypeId} {x:aL} (h:ah W g t x.enc):mp W.heap.size W g x :=
 ⟨fun p=>(p.cell h.lt).trans (h.cell 0),fun p=>(p.cell h.lt).trans (h.cell 1),fun p=>(p.cell h.lt).trans (h.cell 2),fun p=>(p.cell h.lt).trans (h.cell 3),fun p=>(p.cell h.lt).trans (h.cell 4)⟩
theorem aM.at {W:World} {x:aL} (h:aM W W.heap.size x) (q:an W.heap.size W):aM q.val q.val.heap.size x:=h.then q.below
theorem nQ (x:aL) (k:Int) (w:World) (hn:x.t.length≤9223372036854775807) (hm:x.o.length≤9223372036854775807) (hk:0≤k) (hk' : k≤1048576) :
  Calls Tryz.prog 43 #[x.val,O U k] w fun e w'=>e=.returned (O U (bO k (x.t.length+x.o.length)))∧Below w.heap.size w w':=by
 have hb0:=(Below.refl w.heap.size w).alloc (Nat.le_refl _) (.cells #[F x.TA x.t.length x.tc,F x.OA x.o.length x.oc,O U x.got,O U x.sold,O U x.missed] 33)
 have hc:=fun W=>oO x.TA x.t.length x.tc k W hn hk hk'
 by_cases hle:(x.t.length:Int)≤k
 ·have he:bO k x.t.length=k - x.t.length:=by unfold bO; rw [if_pos hle]
  have HE:=Lib.hid (pT (b:=x.o.length) hle)
  have hd:=fun W=>mW x.OA x.o.length x.oc (k - x.t.length) W hm (by omega) (by omega)
  rw [he] at hc
  by_cases hle2:(x.o.length:Int)≤k - x.t.length
  ·have he2:bO (k - x.t.length) x.o.length=k - x.t.length - x.o.length:=by unfold bO; rw [if_pos hle2]
   rw [he2] at hd
   have HE2:=Lib.hid he2
   clear he he2
   go_enter Tryz.func43,Tryz.ntmps43
   go_wp2_with fail
   refine (hc _).mono ?_
   rintro e w1 ⟨rfl,rfl⟩
   go_wp2_with fail
   refine (hd _).mono ?_
   rintro e w1 ⟨rfl,rfl⟩
   go_wp2
   go_ret
   exact ⟨by rw [HE.out,HE2.out]; rfl,hb0⟩
  ·have he2:bO (k - x.t.length) x.o.length = -1:=by unfold bO; rw [if_neg hle2]
   rw [he2] at hd
   have HE2:=Lib.hid he2
   clear he he2
   go_enter Tryz.func43,Tryz.ntmps43
   go_wp2_with fail
   refine (hc _).mono ?_
   rintro e w1 ⟨rfl,rfl⟩
   go_wp2_with fail
   refine (hd _).mono ?_
   rintro e w1 ⟨rfl,rfl⟩
   go_wp2
   go_ret
   exact ⟨by rw [HE.out,HE2.out]; rfl,hb0⟩
 ·have he:bO k x.t.length = -1:=by unfold bO; rw [if_neg hle]
  have HE:Hid (bO k (x.t.length+x.o.length) = -1):=rr (by omega)
  rw [he] at hc
  clear he
  go_enter Tryz.func43,Tryz.ntmps43
  go_wp2_with fail
  refine (hc _).mono ?_
  rintro e w1 ⟨rfl,rfl⟩
  go_wp2
  go_ret
  exact ⟨by rw [HE.out]; rfl,hb0⟩
theorem ah.new1 (w:World) (o:Obj) (t:TypeId) (cs:Array Value):ah ((w.alloc o).alloc (.cells cs t)) (w.heap.size+1) t cs.toList:=by
 have h:=ah.new (w.alloc o) t cs
 rwa [show (w.alloc o).heap.size=w.heap.size+1 from Array.size_push _] at h
theorem ah.new2 (w:World) (o o' : Obj) (t:TypeId) (cs:Array Value):ah (((w.alloc o).alloc o').alloc (.cells cs t)) (w.heap.size+1+1) t cs.toList:=by
 have h:=ah.new1 (w.alloc o) o' t cs
 rwa [show (w.alloc o).heap.size=w.heap.size+1 from Array.size_push _] at h
set_option maxHeartbeats 1000000 in
theorem kb (x:aL) (w:World) (h:aM w w.heap.size x) (hn:x.t.length≤1048576) (hm:x.o.length≤1048576) :
  Calls Tryz.prog 49 #[x.val] w fun e w'=>∃ g1 g2,e=.returned (aL.val { x with TA:=some ⟨g1,0,none⟩,tc:=x.t.length,OA:=some ⟨g2,0,none⟩,oc:=x.o.length })∧w.heap.size≤g1∧g1 < g2∧ah w' g1 104 (x.t.flatMap ap.enc)∧ah w' g2 147 (x.o.flatMap ae.enc)∧Below w.heap.size w w':=by
 have L1:=((ah.new w 33 #[F x.TA x.t.length x.tc,F x.OA x.o.length x.oc,O U x.got,O U x.sold,O U x.missed]).alloc (.cells #[F none 0 0,F none 0 0,O U 0,O U 0,O U 0] 40)).alloc (.cells #[F none 0 0,F none 0 0,O U 0,O U 0,O U 0] 40)
 have L2:=(ah.new1 w (.cells #[F x.TA x.t.length x.tc,F x.OA x.o.length x.oc,O U x.got,O U x.sold,O U x.missed] 33) 40 #[F none 0 0,F none 0 0,O U 0,O U 0,O U 0]).alloc (.cells #[F none 0 0,F none 0 0,O U 0,O U 0,O U 0] 40)
 have L3:=ah.new2 w (.cells #[F x.TA x.t.length x.tc,F x.OA x.o.length x.oc,O U x.got,O U x.sold,O U x.missed] 33) (.cells #[F none 0 0,F none 0 0,O U 0,O U 0,O U 0] 40) 40 #[F none 0 0,F none 0 0,O U 0,O U 0,O U 0]
 have b1:=(Below.refl w.heap.size w).alloc (Nat.le_refl _) (.cells #[F x.TA x.t.length x.tc,F x.OA x.o.length x.oc,O U x.got,O U x.sold,O U x.missed] 33)
 have b2:=b1.alloc b1.size (.cells #[F none 0 0,F none 0 0,O U 0,O U 0,O U 0] 40)
 have b3:=b2.alloc b2.size (.cells #[F none 0 0,F none 0 0,O U 0,O U 0,O U 0] 40)
 clear b1 b2
 go_enter Tryz.func49,Tryz.ntmps49
 go_wp2_with fail
 generalize (((w.alloc (.cells #[F x.TA x.t.length x.tc,F x.OA x.o.length x.oc,O U x.got,O U x.sold,O U x.missed] 33)).alloc (.cells #[F none 0 0,F none 0 0,O U 0,O U 0,O U 0] 40)).alloc (.cells #[F none 0 0,F none 0 0,O U 0,O U 0,O U 0] 40))=W3 at L1 L2 L3 b3 ⊢
 refine (oP x.TA x.tc x.t W3 (h.up b3 (Nat.le_refl _)).ts hn).mono ?_
 rintro e W4 ⟨g1,rfl,hg1,hL4,hb4⟩
 have hs1:=L1.lt
 have hs2:=L2.lt
 have hs3:=L3.lt
 have b4:=b3.trans (hb4.mono b3.size)
 have c1:=(L1.below hb4 L1.lt).cell 1
 have d0:=(L3.below hb4 L3.lt).cell 0
 have f0:=(L3.below hb4 L3.lt).frozen 0
 simp only [List.getElem?_cons_zero,List.getElem?_cons_succ] at c1 d0
 have M1:=(L1.below hb4 L1.lt).other (p:=⟨w.heap.size+1+1,0,none⟩) (by simp only; omega) (F (some ⟨g1,0,none⟩) x.t.length x.t.length)
 have M2:=(L2.below hb4 L2.lt).other (p:=⟨w.heap.size+1+1,0,none⟩) (by simp only; omega) (F (some ⟨g1,0,none⟩) x.t.length x.t.length)
 have M3:=(L3.below hb4 L3.lt).set 0 (F (some ⟨g1,0,none⟩) x.t.length x.t.length)
 have M4:=hL4.other (p:=⟨w.heap.size+1+1,0,none⟩) (by simp only; omega) (F (some ⟨g1,0,none⟩) x.t.length x.t.length)
 have b5:Below w.heap.size w (W4.setCell ⟨w.heap.size+1+1,0,none⟩ (F (some ⟨g1,0,none⟩) x.t.length x.t.length)):=b4.grown (ab (World.grownBy.refl W4 (some (w.heap.size+1+1)))) b4.size (by rintro _ ⟨⟩; omega)
 have z5:W4.heap.size≤(W4.setCell ⟨w.heap.size+1+1,0,none⟩ (F (some ⟨g1,0,none⟩) x.t.length x.t.length)).heap.size:=by simp [World.setCell]
 go_wp2_with fail
 clear c1 d0 f0
 generalize W4.setCell ⟨w.heap.size+1+1,0,none⟩ (F (some ⟨g1,0,none⟩) x.t.length x.t.length)=W5 at M1 M2 M3 M4 b5 z5 ⊢
 refine (mX x.OA x.oc x.o W5 (h.up b5 (Nat.le_refl _)).os hm).mono ?_
 rintro e W6 ⟨g2,rfl,hg2,hL6,hb6⟩
 have b6:=b5.trans (hb6.mono b5.size)
 have t1:=M1.lt
 have t2:=M2.lt
 have t3:=M3.lt
 have t4:=M4.lt
 have N1:=M1.below hb6 M1.lt
 have N2:=M2.below hb6 M2.lt
 have N3:=M3.below hb6 M3.lt
 have N4:=M4.below hb6 M4.lt
 clear L1 L2 L3 M1 M2 M3 M4 hL4 h
 have c2:=N1.cell 2
 have c3:=N1.cell 3
 have c4:=N1.cell 4
 have d0:=N3.cell 0
 have d1:=N3.cell 1
 have d2:=N3.cell 2
 have d3:=N3.cell 3
 have d4:=N3.cell 4
 have e0:=N2.cell 0
 have e1:=N2.cell 1
 have e2:=N2.cell 2
 have e3:=N2.cell 3
 have e4:=N2.cell 4
 have f1:=N3.frozen 1
 have f2:=N3.frozen 2
 have f3:=N3.frozen 3
 have f4:=N3.frozen 4
 obtain ⟨k0,k1,k2,k3,k4⟩:=frz5 N2
 simp only [List.set_cons_zero,List.getElem?_cons_zero,List.getElem?_cons_succ] at c2 c3 c4 d0 d1 d2 d3 d4 e0 e1 e2 e3 e4
 go_wp2
 refine bodyPost_ret (v:=aL.val { x with TA:=some ⟨g1,0,none⟩,tc:=x.t.length,OA:=some ⟨g2,0,none⟩,oc:=x.o.length }) (by simp [results,Tryz.results49,go_sem, *]) rfl ⟨g1,g2,rfl,Nat.le_trans b3.size hg1,by omega, ?_, ?_, ?_⟩
 ·exact ((((((((N4.other (by simp only; omega) _).other (by simp only; omega) _).other (by simp only; omega) _).other (by simp only; omega) _).other (by simp only; omega) _).other (by simp only; omega) _).other (by simp only; omega) _).other (by simp only; omega) _).other (by simp only; omega) _
 ·exact ((((((((hL6.other (by simp only; omega) _).other (by simp only; omega) _).other (by simp only; omega) _).other (by simp only; omega) _).other (by simp only; omega) _).other (by simp only; omega) _).other (by simp only; omega) _).other (by simp only; omega) _).other (by simp only; omega) _
 ·exact (b6.grown (ab (ab (ab (ab (World.grownBy.refl W6 (some (w.heap.size+1+1))))))) b6.size (by rintro _ ⟨⟩; omega)).grown (ab (ab (ab (ab (ab (World.grownBy.refl _ (some (w.heap.size+1)))))))) (by simpa using b6.size) (by rintro _ ⟨⟩; omega)
set_option maxHeartbeats 1000000 in
theorem kc (x y:aL) (w:World) (hx:aM w w.heap.size x) (hy:aM w w.heap.size y) (ht:dd x.t y.t=true) (ho:bW x.o y.o=true) (hg:x.got=y.got) (hs:x.sold=y.sold) (hm:x.missed=y.missed) :
  Calls Tryz.prog 54 #[x.val,y.val] w fun e w'=>e=.returned (.bool true)∧Below w.heap.size w w':=by
 have b1:=(Below.refl w.heap.size w).alloc (Nat.le_refl _) (.cells #[F x.TA x.t.length x.tc,F x.OA x.o.length x.oc,O U x.got,O U x.sold,O U x.missed] 40)
 have b2:=b1.alloc b1.size (.cells #[F y.TA y.t.length y.tc,F y.OA y.o.length y.oc,O U y.got,O U y.sold,O U y.missed] 40)
 have L1:=(ah.new w 40 #[F x.TA x.t.length x.tc,F x.OA x.o.length x.oc,O U x.got,O U x.sold,O U x.missed]).alloc (.cells #[F y.TA y.t.length y.tc,F y.OA y.o.length y.oc,O U y.got,O U y.sold,O U y.missed] 40)
 have L2:=ah.new1 w (.cells #[F x.TA x.t.length x.tc,F x.OA x.o.length x.oc,O U x.got,O U x.sold,O U x.missed] 40) 40 #[F y.TA y.t.length y.tc,F y.OA y.o.length y.oc,O U y.got,O U y.sold,O U y.missed]
 clear b1
 have n1:(x.got != y.got)=false:=by simp [hg]
 have n2:(x.sold != y.sold)=false:=by simp [hs]
 have n3:(x.missed != y.missed)=false:=by simp [hm]
 have HT:=Lib.hid ht
 have HO:=Lib.hid ho
 clear hg hs hm ht ho
 go_enter Tryz.func54,Tryz.ntmps54
 go_wp2_with fail
 generalize ((w.alloc (.cells #[F x.TA x.t.length x.tc,F x.OA x.o.length x.oc,O U x.got,O U x.sold,O U x.missed] 40)).alloc (.cells #[F y.TA y.t.length y.tc,F y.OA y.o.length y.oc,O U y.got,O U y.sold,O U y.missed] 40))=W at b2 L1 L2 ⊢
 have hX:=hx.up b2 (Nat.le_refl _)
 have hY:=hy.up b2 (Nat.le_refl _)
 refine (oQ x.TA y.TA x.tc y.tc x.t y.t W hX.ts hY.ts).mono ?_
 rw [HT.out]
 rintro e w1 ⟨rfl,hb1⟩
 have c1:=(L1.below hb1 L1.lt).cell 1
 have d1:=(L2.below hb1 L2.lt).cell 1
 simp only [List.getElem?_cons_zero,List.getElem?_cons_succ] at c1 d1
 go_wp2_with fail
 refine (mY x.OA y.OA x.oc y.oc x.o y.o _ (hX.then hb1).os (hY.then hb1).os).mono ?_
 rw [HO.out]
 rintro e w2 ⟨rfl,hb2⟩
 have k:=aq hb1 hb2
 clear c1 d1
 have c2:=(L1.below k L1.lt).cell 2
 have c3:=(L1.below k L1.lt).cell 3
 have c4:=(L1.below k L1.lt).cell 4
 have d2:=(L2.below k L2.lt).cell 2
 have d3:=(L2.below k L2.lt).cell 3
 have d4:=(L2.below k L2.lt).cell 4
 simp only [List.getElem?_cons_zero,List.getElem?_cons_succ] at c2 c3 c4 d2 d3 d4
 go_wp2
 go_ret
 exact ⟨rfl,aq b2 k⟩
theorem mq {n:Nat} {p:Int} {l:List ap} {k:Nat} (h:k < l.length):cF n p (l.drop k)=(l[k].ok && (decide (n=0) || decide (p < l[k].k)) && cF (n+1) l[k].k (l.drop (k+1))):=by
 rw [List.drop_eq_getElem_cons h]; rfl
set_option maxHeartbeats 2000000 in
theorem nR (x:aL) (w:World) (h:aM w w.heap.size x) :
  Calls Tryz.prog 130 #[x.val] w fun e w'=>e=.returned (.bool (eQ x.t && decide (x.t.length≤8)))∧Below w.heap.size w w':=by
 have hl:=h.ts.big
 go_enter Tryz.func130,Tryz.ntmps130
 go_wp2
 have hb0:=(Below.refl w.heap.size w).alloc (Nat.le_refl _) (.cells #[F x.TA x.t.length x.tc,F x.OA x.o.length x.oc,O U x.got,O U x.sold,O U x.missed] 40)
 have hS:=mp.of (x:=x) (ah.new w 40 #[F x.TA x.t.length x.tc,F x.OA x.o.length x.oc,O U x.got,O U x.sold,O U x.missed])
 have hR:=h.up hb0 (Nat.le_refl _)
 generalize w.alloc (.cells #[F x.TA x.t.length x.tc,F x.OA x.o.length x.oc,O U x.got,O U x.sold,O U x.missed] 40)=W at hb0 hS hR ⊢
 have c0:=hS.c0
 have hrd:=hR.ts.el
 go_loopw [3] (fun i wr=>∃ (k:Nat) (prev:Int),k≤x.t.length∧i=O U k∧(∃ q:an W.heap.size W,wr=q.val)∧Hid (cF k prev (x.t.drop k)=eQ x.t)∧Hid (∀ (_hk:0 < k) (h' : k - 1 < x.t.length),prev=x.t[k - 1].k)) (fun i _=>x.t.length - (intOf i).toNat)
 case atStart=>exact ⟨0,0,Nat.zero_le _,rfl,⟨an.start _ _,rfl⟩,rfl,fun h=>absurd h (by omega)⟩
 case round =>
  obtain ⟨k,prev,hk,rfl,⟨q,rfl⟩,HR,HP⟩:=hrel
  by_cases hlt:k < x.t.length
  ·obtain ⟨b,off,hA,hb,hcell⟩:=hrd (by omega)
   obtain ⟨e0,e1⟩:=hcell k hlt
   have HC:Hid (0 < k→∀ p:an W.heap.size W,p.val.cell? ⟨b,off+(k - 1) * 2,none⟩=some (O U prev)):=fun h p=>by
    rw [HP.out h (by omega)]; exact (hcell (k - 1) (by omega)).c0 p
   have HS:=Lib.hid (mq (n:=k) (p:=prev) hlt)
   obtain ⟨r,hre⟩ : ∃ r,r=x.t[k]:=⟨_,rfl⟩
   have HN:Hid (∀ (_hk:0 < k+1) (h' : k+1 - 1 < x.t.length),r.k=x.t[k+1 - 1].k):=fun _ h'=>by rw [hre]; rfl
   rw [← hre] at e0 e1 HS
   simp only [hA] at c0
   clear hre hcell hrd hA
   go_wp2
   have hbV:=q.below.alloc q.size (.cells #[O U r.k,O U r.c] 104)
   have hlV:=ah.new q.val 104 #[O U r.k,O U r.c]
   generalize q.val.alloc (.cells #[O U r.k,O U r.c] 104)=V at hbV hlV ⊢
   generalize q.val.heap.size=gv at hlV ⊢
   obtain ⟨d0,d1⟩:=lv.of (r:=r) hlV
   have c0' : ∀ p:an V.heap.size V,p.val.cell? ⟨w.heap.size,0,none⟩=some (F (some ⟨b,off,none⟩) x.t.length x.tc):=fun p=>c0 ⟨p.val,hbV.trans (p.below.mono hbV.size)⟩
   have HOK:Hid (r.ok=(bU r.k 1 99 && bU r.c 0 9999)):=rfl
   clear e0 e1 c0
   obtain ⟨v1,hv1⟩ : ∃ v,bU r.k 1 99=v:=⟨_,rfl⟩
   obtain ⟨v2,hv2⟩ : ∃ v,bU r.c 0 9999=v:=⟨_,rfl⟩
   rw [hv1,hv2] at HOK
   have HV1:=Lib.hid hv1; clear hv1
   have HV2:=Lib.hid hv2; clear hv2
   rcases Nat.eq_zero_or_pos k with h0 | h0
   ·have hd:decide (0 < k)=false:=decide_eq_false (by omega)
    have H0:=Lib.hid h0; clear h0
    cases v1
    ·refine ar (by kernel_rfl) (by kernel_rfl) ?_
     repeat (any_goals (first | go_big_quiet_step ((go_at_call 134; with_reducible refine ay HV1 (aE r.k 1 99 _))) | (refine wpQuiet_step (fun K hK=>?_); go_simp; split <;> (refine hK _ ?_; clear hK K))))
     all_goals (refine wpQuiet_nil ?_; rintro _ ⟨q1,rfl⟩)
     all_goals have hb1:=hb0.trans ((hbV.trans (q1.below.mono hbV.size)).mono hb0.size)
     all_goals go_wp2
     go_ret
     refine ⟨?_,hb1⟩
     rw [← HR.out,HS.out,HOK.out]; rfl
    ·cases v2
     all_goals
      refine ar (by kernel_rfl) (by kernel_rfl) ?_
      repeat (any_goals (first | go_big_quiet_step ((first | (go_at_call 134; with_reducible refine ay HV1 (aE r.k 1 99 _)) | (go_at_call 134; with_reducible refine ay HV2 (aE r.c 0 9999 _)))) | (refine wpQuiet_step (fun K hK=>?_); go_simp; split <;> (refine hK _ ?_; clear hK K))))
      all_goals (refine wpQuiet_nil ?_; rintro _ ⟨q1,rfl⟩)
      all_goals have hb1:=hb0.trans ((hbV.trans (q1.below.mono hbV.size)).mono hb0.size)
      all_goals go_wp2
     ·go_ret
      refine ⟨?_,hb1⟩
      rw [← HR.out,HS.out,HOK.out]; rfl
     ·go_roundw
      case rel=>exact ⟨k+1,r.k,by omega,by go_num,⟨⟨_,hbV.trans (q1.below.mono hbV.size)⟩,rfl⟩,by have h1:=HR.out; rw [HS.out,HOK.out,decide_eq_true H0.out] at h1; exact h1,HN⟩
      case measure=>simp [intOf]; omega
   ·have c5:∀ p:an V.heap.size V,p.val.cell? ⟨b,off+(k - 1) * 2,none⟩=some (O U prev):=fun p=>HC.out h0 ⟨p.val,hbV.trans (p.below.mono hbV.size)⟩
    have h0' : (0:Int) < (k:Int):=by omega
    cases v1
    ·refine ar (by kernel_rfl) (by kernel_rfl) ?_
     repeat (any_goals (first | go_big_quiet_step ((go_at_call 134; with_reducible refine ay HV1 (aE r.k 1 99 _))) | (refine wpQuiet_step (fun K hK=>?_); go_simp; split <;> (refine hK _ ?_; clear hK K))))
     all_goals (refine wpQuiet_nil ?_; rintro _ ⟨q1,rfl⟩)
     all_goals have hb1:=hb0.trans ((hbV.trans (q1.below.mono hbV.size)).mono hb0.size)
     all_goals go_wp2
     go_ret
     refine ⟨?_,hb1⟩
     rw [← HR.out,HS.out,HOK.out]; rfl
    ·cases v2
     all_goals
      refine ar (by kernel_rfl) (by kernel_rfl) ?_
      repeat (any_goals (first | go_big_quiet_step ((first | (go_at_call 134; with_reducible refine ay HV1 (aE r.k 1 99 _)) | (go_at_call 134; with_reducible refine ay HV2 (aE r.c 0 9999 _)))) | (refine wpQuiet_step (fun K hK=>?_); go_simp; split <;> (refine hK _ ?_; clear hK K))))
      all_goals (refine wpQuiet_nil ?_; rintro _ ⟨q1,rfl⟩)
      all_goals have hb1:=hb0.trans ((hbV.trans (q1.below.mono hbV.size)).mono hb0.size)
      all_goals go_wp2
     ·go_ret
      refine ⟨?_,hb1⟩
      rw [← HR.out,HS.out,HOK.out]; rfl
     ·go_ret
      refine ⟨?_,hb1⟩
      have hm:r.k≤prev:=by assumption
      rw [← HR.out,HS.out,HOK.out,decide_eq_false (by omega : ¬ k=0),decide_eq_false (by omega : ¬ prev < r.k)]; rfl
     ·have hm:prev < r.k:=by assumption
      go_roundw
      case rel=>exact ⟨k+1,r.k,by omega,by go_num,⟨⟨_,hbV.trans (q1.below.mono hbV.size)⟩,rfl⟩,by have h1:=HR.out; rw [HS.out,HOK.out,decide_eq_true hm,Bool.or_true] at h1; exact h1,HN⟩
      case measure=>simp [intOf]; omega
  ·have HK:Hid (eQ x.t=true):=by
    have h1:=HR.out
    rw [List.drop_eq_nil_of_le (by omega)] at h1; exact h1.symm
   clear hrd
   go_wp2
   go_ret
   refine ⟨?_,hb0.trans (q.below.mono hb0.size)⟩
   rw [HK.out,Bool.true_and]
   exact congrArg (fun b=>Ending.returned (.bool b)) (decide_eq_decide.2 (by omega))
theorem aQ {P:Program} {f:FuncId} {args:Array Value} {B:Nat} {w:World} {q:an B w} {v v' : Value} (hv:Hid (v=v')) (hB:B≤w.heap.size)
  (h:Calls P f args q.val fun e w'=>e=.returned v∧Below q.val.heap.size q.val w'):Calls P f args q.val fun e w'=>e=.returned v'∧∃ q' : an B w,w'=q'.val:=by
 have:=hv.out; subst this; exact aK hB h
set_option maxHeartbeats 1000000 in
theorem bx (x:aL) (kd:Int) (w:World) (h:aM w w.heap.size x) :
  Calls Tryz.prog 174 #[x.val,O U kd] w fun e w'=>e=.returned (O U (au x.t kd))∧Below w.heap.size w w':=by
 have hl:=h.ts.big
 have HF:Hid (bi (fun t:ap=>decide (t.k=kd)) 0 (x.t.drop 0)=au x.t kd):=rfl
 go_enter Tryz.func174,Tryz.ntmps174
 go_wp2
 have hb0:=(Below.refl w.heap.size w).alloc (Nat.le_refl _) (.cells #[F x.TA x.t.length x.tc,F x.OA x.o.length x.oc,O U x.got,O U x.sold,O U x.missed] 40)
 have hS:=mp.of (x:=x) (ah.new w 40 #[F x.TA x.t.length x.tc,F x.OA x.o.length x.oc,O U x.got,O U x.sold,O U x.missed])
 have hR:=h.up hb0 (Nat.le_refl _)
 generalize w.alloc (.cells #[F x.TA x.t.length x.tc,F x.OA x.o.length x.oc,O U x.got,O U x.sold,O U x.missed] 40)=W at hb0 hS hR ⊢
 have c0:=hS.c0
 have hrd:=hR.ts.el
 go_loopw [5] (fun i wr=>∃ (k:Nat),k≤x.t.length∧i=O U k∧(∃ q:an W.heap.size W,wr=q.val)∧Hid (bi (fun t:ap=>decide (t.k=kd)) k (x.t.drop k)=au x.t kd)) (fun i _=>x.t.length - (intOf i).toNat)
 case atStart=>exact ⟨0,Nat.zero_le _,rfl,⟨an.start _ _,rfl⟩,HF⟩
 case round =>
  obtain ⟨k,hk,rfl,⟨q,rfl⟩,HR⟩:=hrel
  by_cases hlt:k < x.t.length
  ·obtain ⟨b,off,hA,hb,hcell⟩:=hrd (by omega)
   obtain ⟨e0,e1⟩:=hcell k hlt
   have hy:=fun hv=>qN (f:=fun t:ap=>decide (t.k=kd)) hlt hv
   have hn:=fun hv=>sJ (f:=fun t:ap=>decide (t.k=kd)) hlt hv
   obtain ⟨r,hre⟩ : ∃ r,r=x.t[k]:=⟨_,rfl⟩
   rw [← hre] at e0 e1 hy hn
   simp only [hA] at c0
   clear hre hcell hrd hA
   by_cases hz:r.k=kd
   ·have HE:Hid ((k:Int)=au x.t kd):=by rw [← hy (decide_eq_true hz)]; exact HR.out
    have hv:(r.k == kd)=true:=by simp [hz]
    clear hy hn hz
    go_wp2
    go_ret
    exact ⟨by rw [← HE.out]; rfl,hb0.trans (q.below.mono hb0.size)⟩
   ·have HE:Hid (bi (fun t:ap=>decide (t.k=kd)) (k+1) (x.t.drop (k+1))=au x.t kd):=by rw [← hn (decide_eq_false hz)]; exact HR.out
    have hv:(r.k == kd)=false:=by simp [hz]
    clear hy hn hz
    go_wp2
    go_roundw
    case rel=>exact ⟨k+1,by omega,by go_num,⟨q,rfl⟩,HE⟩
    case measure=>simp [intOf]; omega
  ·have HE:Hid (-1=au x.t kd):=by
    have h1:=HR.out; rw [List.drop_eq_nil_of_le (by omega)] at h1; exact h1
   clear hrd
   go_wp2
   go_ret
   exact ⟨by rw [← HE.out]; rfl,hb0.trans (q.below.mono hb0.size)⟩
theorem iC (r:ae) (w:World) (h1:1≤r.k∧r.k≤99) (h2:1≤r.p∧r.p≤999) :
  Calls Tryz.prog 176 #[r.val] w fun e w'=>e=.returned (O U (1000 * r.k+r.p))∧Below w.heap.size w w':=by
 obtain ⟨a1,a2⟩:=h1
 obtain ⟨b1,b2⟩:=h2
 have m:IntKind.i64.wrap (1000 * r.k)=1000 * r.k:=IntWalk.i64_in _ (by omega)
 have s:IntKind.i64.wrap (1000 * r.k+r.p)=1000 * r.k+r.p:=IntWalk.i64_in _ (by omega)
 go_enter Tryz.func176,Tryz.ntmps176
 go_wp2
 first
  | (go_ret; exact ⟨rfl,(Below.refl _ _).alloc (Nat.le_refl _) _⟩)
  | (go_quiet (fail); go_wp2; go_ret; exact ⟨rfl,by go_grown⟩)
theorem nr {ts:List ap} {p:Option ae} {l:List ae} {k:Nat} (h:k < l.length):dx ts p (l.drop k)=(l[k].ok ts && (match p with | none=>true | some q=>before q l[k]) && dx ts (some l[k]) (l.drop (k+1))):=by
 rw [List.drop_eq_getElem_cons h]; rfl
set_option maxHeartbeats 2000000 in
theorem oT (x:aL) (w:World) (h:aM w w.heap.size x) (hall:∀ i (hi:i < x.t.length),x.t[i].ok=true) :
  Calls Tryz.prog 131 #[x.val] w fun e w'=>e=.returned (.bool (eF x.t x.o && decide (x.o.length≤8)))∧Below w.heap.size w w':=by
 have hl:=h.os.big
 have HALL:=Lib.hid hall; clear hall
 go_enter Tryz.func131,Tryz.ntmps131
 go_wp2
 have hb0:=(Below.refl w.heap.size w).alloc (Nat.le_refl _) (.cells #[F x.TA x.t.length x.tc,F x.OA x.o.length x.oc,O U x.got,O U x.sold,O U x.missed] 40)
 have hS:=mp.of (x:=x) (ah.new w 40 #[F x.TA x.t.length x.tc,F x.OA x.o.length x.oc,O U x.got,O U x.sold,O U x.missed])
 have hR:=h.up hb0 (Nat.le_refl _)
 generalize w.alloc (.cells #[F x.TA x.t.length x.tc,F x.OA x.o.length x.oc,O U x.got,O U x.sold,O U x.missed] 40)=W at hb0 hS hR ⊢
 have hrd:=hR.os.el
 go_loopw [3] (fun i wr=>∃ (k:Nat) (prev:Option ae),k≤x.o.length∧i=O U k∧(∃ q:an W.heap.size W,wr=q.val)∧Hid (dx x.t prev (x.o.drop k)=eF x.t x.o)∧Hid ((k=0→prev=none)∧∀ (_hk:0 < k) (h' : k - 1 < x.o.length),prev=some x.o[k - 1]∧x.o[k - 1].ok x.t=true)) (fun i _=>x.o.length - (intOf i).toNat)
 case atStart=>exact ⟨0,none,Nat.zero_le _,rfl,⟨an.start _ _,rfl⟩,rfl,fun _=>rfl,fun h=>absurd h (by omega)⟩
 case round =>
  obtain ⟨k,prev,hk,rfl,⟨q,rfl⟩,HR,HP⟩:=hrel
  obtain ⟨s0,s1,s2,s3,s4⟩:=hS
  by_cases hlt:k < x.o.length
  ·obtain ⟨b,off,hA,hb,hcell⟩:=hrd (by omega)
   obtain ⟨e0,e1,e2⟩:=hcell k hlt
   have HS:=Lib.hid (nr (ts:=x.t) (p:=prev) hlt)
   obtain ⟨r,hre⟩ : ∃ r,r=x.o[k]:=⟨_,rfl⟩
   have HN:Hid (r.ok x.t=true→(k+1=0→some r=none)∧∀ (_hk:0 < k+1) (h' : k+1 - 1 < x.o.length),some r=some x.o[k+1 - 1]∧x.o[k+1 - 1].ok x.t=true):=fun ho=>⟨fun h=>by omega,fun _ h'=>⟨by rw [hre]; rfl,by rw [hre] at ho; exact ho⟩⟩
   have HC:Hid (∀ _:0 < k,∃ u:ae,prev=some u∧u.ok x.t=true∧fl W.heap.size W b (off+(k - 1) * 3) u):=fun h=>⟨x.o[k - 1],(HP.out.2 h (by omega)).1,(HP.out.2 h (by omega)).2,hcell (k - 1) (by omega)⟩
   rw [← hre] at e0 e1 e2 HS
   simp only [hA] at s1
   clear hre hcell hrd
   go_wp2
   have hbV:=q.below.alloc q.size (.cells #[O U r.k,O U r.p,O U r.c] 147)
   have hlV:=ah.new q.val 147 #[O U r.k,O U r.p,O U r.c]
   generalize q.val.alloc (.cells #[O U r.k,O U r.p,O U r.c] 147)=V at hbV hlV ⊢
   generalize q.val.heap.size=gv at hlV ⊢
   obtain ⟨d0,d1,d2⟩:=fl.of (r:=r) hlV
   have up:∀ {a:Addr} {u:Value},(∀ p:an W.heap.size W,p.val.cell? a=some u)→∀ p:an V.heap.size V,p.val.cell? a=some u:=fun h p=>h ⟨p.val,hbV.trans (p.below.mono hbV.size)⟩
   have s0:=up s0
   have s1:=up s1
   have s2:=up s2
   have s3:=up s3
   have s4:=up s4
   have hxe:({ x with OA:=some ⟨b,off,none⟩ } : aL)=x:=by rw [← hA]
   have hRV:∀ p:an V.heap.size V,aM p.val p.val.heap.size { x with OA:=some ⟨b,off,none⟩ }:=fun p=>by rw [hxe]; exact hR.at ⟨p.val,hbV.trans (p.below.mono hbV.size)⟩
   clear hxe hA
   have HOK:Hid (r.ok x.t=(aO x.t r.k && bU r.p 1 999 && bU r.c 1 9999)):=rfl
   clear e0 e1 e2
   obtain ⟨X,hX⟩ : ∃ X,au x.t r.k=X:=⟨_,rfl⟩
   have HX:Hid (Value.int .i64 (au x.t r.k)=O U X):=by rw [hX]; rfl
   have HH:Hid (aO x.t r.k=decide (0≤X)):=by rw [← hX]; exact (de _ _).symm
   obtain ⟨v2,hv2⟩ : ∃ v,bU r.p 1 999=v:=⟨_,rfl⟩
   obtain ⟨v3,hv3⟩ : ∃ v,bU r.c 1 9999=v:=⟨_,rfl⟩
   rw [hv2,hv3] at HOK
   have HV2:=Lib.hid hv2; clear hv2
   have HV3:=Lib.hid hv3; clear hv3
   clear hX
   by_cases hX0:0≤X
   ·have hd0:decide (X < 0)=false:=decide_eq_false (by omega)
    have HXT:Hid (decide (0≤X)=true):=decide_eq_true hX0
    cases v2
    ·rcases Nat.eq_zero_or_pos k with h0 | h0
     ·have hd:decide (0 < k)=false:=decide_eq_false (by omega)
      clear h0
      refine ar (by kernel_rfl) (by kernel_rfl) ?_
      repeat (any_goals (first | go_big_quiet_step ((first | (go_at_call 174; with_reducible refine aQ HX (Nat.le_refl _) (bx { x with OA:=some ⟨b,off,none⟩ } r.k _ (hRV _))) | (go_at_call 134; with_reducible refine ay HV2 (aE r.p 1 999 _)))) | (refine wpQuiet_step (fun K hK=>?_); go_simp; split <;> (refine hK _ ?_; clear hK K))))
      all_goals (refine wpQuiet_nil ?_; rintro _ ⟨q1,rfl⟩)
      all_goals have hb1:=hb0.trans ((hbV.trans (q1.below.mono hbV.size)).mono hb0.size)
      all_goals go_wp2
      go_ret
      refine ⟨?_,hb1⟩
      rw [← HR.out,HS.out,HOK.out,Bool.and_false]; rfl
     ·have h0' : (0:Int) < (k:Int):=by omega
      refine ar (by kernel_rfl) (by kernel_rfl) ?_
      repeat (any_goals (first | go_big_quiet_step ((first | (go_at_call 174; with_reducible refine aQ HX (Nat.le_refl _) (bx { x with OA:=some ⟨b,off,none⟩ } r.k _ (hRV _))) | (go_at_call 134; with_reducible refine ay HV2 (aE r.p 1 999 _)))) | (refine wpQuiet_step (fun K hK=>?_); go_simp; split <;> (refine hK _ ?_; clear hK K))))
      all_goals (refine wpQuiet_nil ?_; rintro _ ⟨q1,rfl⟩)
      all_goals have hb1:=hb0.trans ((hbV.trans (q1.below.mono hbV.size)).mono hb0.size)
      all_goals go_wp2
      go_ret
      refine ⟨?_,hb1⟩
      rw [← HR.out,HS.out,HOK.out,Bool.and_false]; rfl
    ·cases v3
     ·rcases Nat.eq_zero_or_pos k with h0 | h0
      ·have hd:decide (0 < k)=false:=decide_eq_false (by omega)
       clear h0
       refine ar (by kernel_rfl) (by kernel_rfl) ?_
       repeat (any_goals (first | go_big_quiet_step ((first | (go_at_call 174; with_reducible refine aQ HX (Nat.le_refl _) (bx { x with OA:=some ⟨b,off,none⟩ } r.k _ (hRV _))) | (go_at_call 134; with_reducible refine ay HV2 (aE r.p 1 999 _)) | (go_at_call 134; with_reducible refine ay HV3 (aE r.c 1 9999 _)))) | (refine wpQuiet_step (fun K hK=>?_); go_simp; split <;> (refine hK _ ?_; clear hK K))))
       all_goals (refine wpQuiet_nil ?_; rintro _ ⟨q1,rfl⟩)
       all_goals have hb1:=hb0.trans ((hbV.trans (q1.below.mono hbV.size)).mono hb0.size)
       all_goals go_wp2
       go_ret
       refine ⟨?_,hb1⟩
       rw [← HR.out,HS.out,HOK.out,Bool.and_false]; rfl
      ·have h0' : (0:Int) < (k:Int):=by omega
       refine ar (by kernel_rfl) (by kernel_rfl) ?_
       repeat (any_goals (first | go_big_quiet_step ((first | (go_at_call 174; with_reducible refine aQ HX (Nat.le_refl _) (bx { x with OA:=some ⟨b,off,none⟩ } r.k _ (hRV _))) | (go_at_call 134; with_reducible refine ay HV2 (aE r.p 1 999 _)) | (go_at_call 134; with_reducible refine ay HV3 (aE r.c 1 9999 _)))) | (refine wpQuiet_step (fun K hK=>?_); go_simp; split <;> (refine hK _ ?_; clear hK K))))
       all_goals (refine wpQuiet_nil ?_; rintro _ ⟨q1,rfl⟩)
       all_goals have hb1:=hb0.trans ((hbV.trans (q1.below.mono hbV.size)).mono hb0.size)
       all_goals go_wp2
       go_ret
       refine ⟨?_,hb1⟩
       rw [← HR.out,HS.out,HOK.out,Bool.and_false]; rfl
     ·have HRO:Hid (r.ok x.t=true):=by unfold Hid; rw [HOK.out,HH.out,HXT.out]; rfl
      rcases Nat.eq_zero_or_pos k with h0 | h0
      ·have hd:decide (0 < k)=false:=decide_eq_false (by omega)
       have HP0:Hid (prev=none):=HP.out.1 h0
       clear h0
       refine ar (by kernel_rfl) (by kernel_rfl) ?_
       repeat (any_goals (first | go_big_quiet_step ((first | (go_at_call 174; with_reducible refine aQ HX (Nat.le_refl _) (bx { x with OA:=some ⟨b,off,none⟩ } r.k _ (hRV _))) | (go_at_call 134; with_reducible refine ay HV2 (aE r.p 1 999 _)) | (go_at_call 134; with_reducible refine ay HV3 (aE r.c 1 9999 _)))) | (refine wpQuiet_step (fun K hK=>?_); go_simp; split <;> (refine hK _ ?_; clear hK K))))
       all_goals (refine wpQuiet_nil ?_; rintro _ ⟨q1,rfl⟩)
       all_goals have hb1:=hb0.trans ((hbV.trans (q1.below.mono hbV.size)).mono hb0.size)
       all_goals go_wp2
       go_roundw
       case rel=>exact ⟨k+1,some r,by omega,by go_num,⟨⟨_,hbV.trans (q1.below.mono hbV.size)⟩,rfl⟩,by have h1:=HR.out; rw [HS.out,HRO.out,HP0.out] at h1; exact h1,HN.out HRO.out⟩
       case measure=>simp [intOf]; omega
      ·have h0' : (0:Int) < (k:Int):=by omega
       obtain ⟨u,hpu,huo,⟨t0,t1,t2⟩⟩:=HC.out h0
       have t0:=up t0
       have t1:=up t1
       have t2:=up t2
       subst hpu
       have HS2:Hid (dx x.t (some u) (x.o.drop k)=(r.ok x.t && before u r && dx x.t (some r) (x.o.drop (k+1)))):=HS.out
       obtain ⟨hh1,hp1,_⟩:=ae.bounds huo
       obtain ⟨hh2,hp2,_⟩:=ae.bounds HRO.out
       have HKU:=Lib.hid (And.intro (ei HALL.out hh1) hp1)
       have HKR:=Lib.hid (And.intro (ei HALL.out hh2) hp2)
       have HB:Hid (before u r=decide (1000 * u.k+u.p < 1000 * r.k+r.p)):=mi hp1 hp2
       clear huo hh1 hp1 hh2 hp2 up
       obtain ⟨K1,hK1⟩ : ∃ K,1000 * u.k+u.p=K:=⟨_,rfl⟩
       obtain ⟨K2,hK2⟩ : ∃ K,1000 * r.k+r.p=K:=⟨_,rfl⟩
       rw [hK1,hK2] at HB
       have HK1:Hid (Value.int .i64 (1000 * u.k+u.p)=O U K1):=by rw [hK1]; rfl
       have HK2:Hid (Value.int .i64 (1000 * r.k+r.p)=O U K2):=by rw [hK2]; rfl
       clear hK1 hK2
       refine ar (by kernel_rfl) (by kernel_rfl) ?_
       repeat (any_goals (first | go_big_quiet_step ((first | (go_at_call 174; with_reducible refine aQ HX (Nat.le_refl _) (bx { x with OA:=some ⟨b,off,none⟩ } r.k _ (hRV _))) | (go_at_call 134; with_reducible refine ay HV2 (aE r.p 1 999 _)) | (go_at_call 134; with_reducible refine ay HV3 (aE r.c 1 9999 _)) | (go_at_call 176; with_reducible refine aQ HK1 (Nat.le_refl _) (iC u _ HKU.out.1 HKU.out.2)) | (go_at_call 176; with_reducible refine aQ HK2 (Nat.le_refl _) (iC r _ HKR.out.1 HKR.out.2)))) | (refine wpQuiet_step (fun K hK=>?_); go_simp; split <;> (refine hK _ ?_; clear hK K))))
       all_goals (refine wpQuiet_nil ?_; rintro _ ⟨q1,rfl⟩)
       all_goals have hb1:=hb0.trans ((hbV.trans (q1.below.mono hbV.size)).mono hb0.size)
       all_goals go_wp2
       ·go_ret
        refine ⟨?_,hb1⟩
        have hm:K2≤K1:=by assumption
        rw [← HR.out,HS2.out,HRO.out,HB.out,decide_eq_false (by omega)]; rfl
       ·have hm:K1 < K2:=by assumption
        go_roundw
        case rel=>exact ⟨k+1,some r,by omega,by go_num,⟨⟨_,hbV.trans (q1.below.mono hbV.size)⟩,rfl⟩,by have h1:=HR.out; rw [HS2.out,HRO.out,HB.out,decide_eq_true hm] at h1; exact h1,HN.out HRO.out⟩
        case measure=>simp [intOf]; omega
   ·have hd0:decide (X < 0)=true:=decide_eq_true (by omega)
    have HXT:Hid (decide (0≤X)=false):=decide_eq_false hX0
    rcases Nat.eq_zero_or_pos k with h0 | h0
    ·have hd:decide (0 < k)=false:=decide_eq_false (by omega)
     clear h0
     refine ar (by kernel_rfl) (by kernel_rfl) ?_
     repeat (any_goals (first | go_big_quiet_step ((go_at_call 174; with_reducible refine aQ HX (Nat.le_refl _) (bx { x with OA:=some ⟨b,off,none⟩ } r.k _ (hRV _)))) | (refine wpQuiet_step (fun K hK=>?_); go_simp; split <;> (refine hK _ ?_; clear hK K))))
     all_goals (refine wpQuiet_nil ?_; rintro _ ⟨q1,rfl⟩)
     all_goals have hb1:=hb0.trans ((hbV.trans (q1.below.mono hbV.size)).mono hb0.size)
     all_goals go_wp2
     go_ret
     refine ⟨?_,hb1⟩
     rw [← HR.out,HS.out,HOK.out,HH.out,HXT.out]; rfl
    ·have h0' : (0:Int) < (k:Int):=by omega
     refine ar (by kernel_rfl) (by kernel_rfl) ?_
     repeat (any_goals (first | go_big_quiet_step ((go_at_call 174; with_reducible refine aQ HX (Nat.le_refl _) (bx { x with OA:=some ⟨b,off,none⟩ } r.k _ (hRV _)))) | (refine wpQuiet_step (fun K hK=>?_); go_simp; split <;> (refine hK _ ?_; clear hK K))))
     all_goals (refine wpQuiet_nil ?_; rintro _ ⟨q1,rfl⟩)
     all_goals have hb1:=hb0.trans ((hbV.trans (q1.below.mono hbV.size)).mono hb0.size)
     all_goals go_wp2
     go_ret
     refine ⟨?_,hb1⟩
     rw [← HR.out,HS.out,HOK.out,HH.out,HXT.out]; rfl
  ·have HK:Hid (eF x.t x.o=true):=by
    have h1:=HR.out
    rw [List.drop_eq_nil_of_le (by omega)] at h1; exact h1.symm
   clear hrd
   go_wp2
   go_ret
   refine ⟨?_,hb0.trans (q.below.mono hb0.size)⟩
   rw [HK.out,Bool.true_and]
   exact congrArg (fun b=>Ending.returned (.bool b)) (decide_eq_decide.2 (by omega))
theorem jM (n:Int) (w:World):Calls Tryz.prog 132 #[O U n] w fun e w'=>e=.returned (.bool (bU n 0 99999))∧w=w':=by
 go_enter Tryz.func132,Tryz.ntmps132
 go_wp2_with fail
 refine (aE n 0 99999 _).mono ?_
 rintro e w' ⟨rfl,rfl⟩
 go_wp2
 go_ret
 exact ⟨rfl,rfl⟩
set_option maxHeartbeats 1000000 in
theorem iZ (x:aL) (w:World) (h:aM w w.heap.size x) (tl:x.t.length≤8) (ol:x.o.length≤8) (ht:∀ i (hi:i < x.t.length),x.t[i].ok=true) (ho:∀ i (hi:i < x.o.length),x.o[i].ok x.t=true) :
  Calls Tryz.prog 133 #[x.val] w fun e w'=>e=.returned (.tuple #[O U (cc x.t),O U (aS cm x.o)])∧Below w.heap.size w w':=by
 have HT:=Lib.hid ht; clear ht
 have HO:=Lib.hid ho; clear ho
 have HF:Hid (fP 0 (x.t.drop 0)=cc x.t):=rfl
 have HG:Hid (bs cm 0 (x.o.drop 0)=aS cm x.o):=rfl
 go_enter Tryz.func133,Tryz.ntmps133
 go_wp2
 have hb0:=(Below.refl w.heap.size w).alloc (Nat.le_refl _) (.cells #[F x.TA x.t.length x.tc,F x.OA x.o.length x.oc,O U x.got,O U x.sold,O U x.missed] 40)
 have hS:=mp.of (x:=x) (ah.new w 40 #[F x.TA x.t.length x.tc,F x.OA x.o.length x.oc,O U x.got,O U x.sold,O U x.missed])
 have hR:=h.up hb0 (Nat.le_refl _)
 generalize w.alloc (.cells #[F x.TA x.t.length x.tc,F x.OA x.o.length x.oc,O U x.got,O U x.sold,O U x.missed] 40)=W at hb0 hS hR ⊢
 obtain ⟨s0,s1,s2,s3,s4⟩:=hS
 have hrt:=hR.ts.el
 have hro:=hR.os.el
 go_loopw [4,6] (fun s i wr=>∃ (k:Nat) (t:Int),k≤x.t.length∧i=O U k∧s=O U t∧(0≤t∧t≤9999 * (k:Int))∧(∃ q:an W.heap.size W,wr=q.val)∧Hid (fP t (x.t.drop k)=cc x.t)) (fun _ i _=>x.t.length - (intOf i).toNat)
 case atStart=>exact ⟨0,0,Nat.zero_le _,rfl,rfl,by omega,⟨an.start _ _,rfl⟩,HF⟩
 case round =>
  obtain ⟨k,t,hk,rfl,rfl,⟨t0,t1⟩,⟨q,rfl⟩,HR⟩:=hrel
  by_cases hlt:k < x.t.length
  ·obtain ⟨b,off,hA,hb,hcell⟩:=hrt (by omega)
   obtain ⟨e0,e1⟩:=hcell k hlt
   obtain ⟨_,x1,x2⟩:=ap.bounds (HT.out k hlt)
   have HS:=Lib.hid (qO hlt t)
   obtain ⟨r,hre⟩ : ∃ r,r=x.t[k]:=⟨_,rfl⟩
   rw [← hre] at e0 e1 HS x1 x2
   simp only [hA] at s0
   clear hre hcell hrt hro hA
   go_wp2
   go_roundw
   case rel=>exact ⟨k+1,t+r.c,by omega,by go_num,rfl,by omega,⟨q,rfl⟩,by have h1:=HR.out; rw [HS.out] at h1; exact h1⟩
   case measure=>simp [intOf]; omega
  ·have HE:Hid (t=cc x.t):=by
    have h1:=HR.out; rw [List.drop_eq_nil_of_le (by omega)] at h1; exact h1
   clear hrt
   go_wp2
   go_loopw [5,7] (fun s i wr=>∃ (k:Nat) (u:Int),k≤x.o.length∧i=O U k∧s=O U u∧(0≤u∧u≤9999 * (k:Int))∧(∃ q:an W.heap.size W,wr=q.val)∧Hid (bs cm u (x.o.drop k)=aS cm x.o)) (fun _ i _=>x.o.length - (intOf i).toNat)
   case atStart=>exact ⟨0,0,Nat.zero_le _,rfl,rfl,by omega,⟨q,rfl⟩,HG⟩
   case round =>
    obtain ⟨j,u,hj,rfl,rfl,⟨u0,u1⟩,⟨p,rfl⟩,HU⟩:=hrel
    by_cases hlj:j < x.o.length
    ·obtain ⟨b,off,hA,hb,hcell⟩:=hro (by omega)
     obtain ⟨e0,e1,e2⟩:=hcell j hlj
     obtain ⟨_,_,x1,x2⟩:=ae.bounds (HO.out j hlj)
     have HS:Hid (bs cm u (x.o.drop j)=bs cm (u+x.o[j].c) (x.o.drop (j+1))):=j0 (f:=cm) hlj u
     obtain ⟨r,hre⟩ : ∃ r,r=x.o[j]:=⟨_,rfl⟩
     rw [← hre] at e0 e1 e2 HS x1 x2
     simp only [hA] at s1
     clear hre hcell hro hA
     go_wp2
     go_roundw
     case rel=>exact ⟨j+1,u+r.c,by omega,by go_num,rfl,by omega,⟨p,rfl⟩,by have h1:=HU.out; rw [HS.out] at h1; exact h1⟩
     case measure=>simp [intOf]; omega
    ·have HE2:Hid (u=aS cm x.o):=by
      have h1:=HU.out; rw [List.drop_eq_nil_of_le (by omega)] at h1; exact h1
     clear hro
     go_wp2
     go_ret2
     exact ⟨by rw [← HE.out,← HE2.out]; rfl,hb0.trans (p.below.mono hb0.size)⟩
set_option maxHeartbeats 2000000 in
theorem dA (x:aL) (w:World) (h:aM w w.heap.size x) :
  Calls Tryz.prog 82 #[x.val] w fun e w'=>e=.returned (.bool (al x))∧Below w.heap.size w w':=by
 have hb0:=(Below.refl w.heap.size w).alloc (Nat.le_refl _) (.cells #[F x.TA x.t.length x.tc,F x.OA x.o.length x.oc,O U x.got,O U x.sold,O U x.missed] 40)
 have hS:=mp.of (x:=x) (ah.new w 40 #[F x.TA x.t.length x.tc,F x.OA x.o.length x.oc,O U x.got,O U x.sold,O U x.missed])
 have hR:=h.up hb0 (Nat.le_refl _)
 have HG:Hid (al x=((eQ x.t && decide (x.t.length≤8)) && (eF x.t x.o && decide (x.o.length≤8)) && bU x.got 0 99999 && bU x.sold 0 99999 && bU x.missed 0 99999 && lw x)):=by
  unfold Hid al eR iB
  generalize eQ x.t=a1; generalize eF x.t x.o=a2; generalize decide (x.t.length≤8)=a3; generalize decide (x.o.length≤8)=a4; generalize bU x.got 0 99999=a5; generalize bU x.sold 0 99999=a6; generalize bU x.missed 0 99999=a7; generalize lw x=a8
  cases a1 <;> cases a2 <;> cases a3 <;> cases a4 <;> cases a5 <;> cases a6 <;> cases a7 <;> rfl
 obtain ⟨v1,hv1⟩ : ∃ v,(eQ x.t && decide (x.t.length≤8))=v:=⟨_,rfl⟩
 obtain ⟨v2,hv2⟩ : ∃ v,(eF x.t x.o && decide (x.o.length≤8))=v:=⟨_,rfl⟩
 obtain ⟨v3,hv3⟩ : ∃ v,bU x.got 0 99999=v:=⟨_,rfl⟩
 obtain ⟨v4,hv4⟩ : ∃ v,bU x.sold 0 99999=v:=⟨_,rfl⟩
 obtain ⟨v5,hv5⟩ : ∃ v,bU x.missed 0 99999=v:=⟨_,rfl⟩
 rw [hv1,hv2,hv3,hv4,hv5] at HG
 have cT:∀ W,aM W W.heap.size x→Calls Tryz.prog 130 #[x.val] W fun e w'=>e=.returned (.bool v1)∧Below W.heap.size W w':=fun W hW=>by rw [← hv1]; exact nR x W hW
 have c3:=fun W=>jM x.got W
 have c4:=fun W=>jM x.sold W
 have c5:=fun W=>jM x.missed W
 rw [hv3] at c3
 rw [hv4] at c4
 rw [hv5] at c5
 have HV1:=Lib.hid hv1; clear hv1
 have HV2:=Lib.hid hv2; clear hv2
 have HV3:=Lib.hid hv3; clear hv3
 have HV4:=Lib.hid hv4; clear hv4
 have HV5:=Lib.hid hv5; clear hv5
 cases v1
 ·go_enter Tryz.func82,Tryz.ntmps82
  go_wp2_with fail
  generalize w.alloc (.cells #[F x.TA x.t.length x.tc,F x.OA x.o.length x.oc,O U x.got,O U x.sold,O U x.missed] 40)=W at hb0 hS hR ⊢
  refine (aT (cT W hR)).mono ?_
  rintro e w1 ⟨rfl,q1,rfl⟩
  go_wp2
  go_ret
  exact ⟨by rw [HG.out]; rfl,hb0.trans (q1.below.mono hb0.size)⟩
 ·have h1:=HV1.out
  rw [Bool.and_eq_true] at h1
  have tl:x.t.length≤8:=of_decide_eq_true h1.2
  have HALL:=Lib.hid (fG _ _ _ h1.1)
  have cO:∀ W,aM W W.heap.size x→Calls Tryz.prog 131 #[x.val] W fun e w'=>e=.returned (.bool v2)∧Below W.heap.size W w':=fun W hW=>by rw [← HV2.out]; exact oT x W hW HALL.out
  clear h1
  cases v2
  ·go_enter Tryz.func82,Tryz.ntmps82
   go_wp2_with fail
   generalize w.alloc (.cells #[F x.TA x.t.length x.tc,F x.OA x.o.length x.oc,O U x.got,O U x.sold,O U x.missed] 40)=W at hb0 hS hR ⊢
   obtain ⟨s0,s1,s2,s3,s4⟩:=hS
   refine (aT (cT W hR)).mono ?_
   rintro e w1 ⟨rfl,q1,rfl⟩
   go_wp2_with fail
   refine (aK (Nat.le_refl _) (cO _ (hR.at q1))).mono ?_
   rintro e w2 ⟨rfl,q2,rfl⟩
   go_wp2
   go_ret
   exact ⟨by rw [HG.out]; rfl,hb0.trans (q2.below.mono hb0.size)⟩
  ·have h2:=HV2.out
   rw [Bool.and_eq_true] at h2
   have ol:x.o.length≤8:=of_decide_eq_true h2.2
   have HOLL:=Lib.hid (fm _ _ _ h2.1)
   have cM:=fun W hW=>iZ x W hW tl ol HALL.out HOLL.out
   have hi:=jk x.t 0 HALL.out
   have hj:=eU cm x.t x.o 0 HOLL.out
   have HSM:Hid (lw x=decide (x.got=cc x.t+aS cm x.o+x.sold+x.missed)):=rfl
   change 0≤cc x.t∧cc x.t≤_ at hi
   change 0≤aS cm x.o∧aS cm x.o≤_ at hj
   generalize cc x.t=I at cM hi HSM
   generalize aS cm x.o=J at cM hj HSM
   obtain ⟨i1,i2⟩:=hi
   obtain ⟨j1,j2⟩:=hj
   clear h2
   by_cases hall3:(v3 && v4 && v5)=true
   ·rw [Bool.and_eq_true,Bool.and_eq_true] at hall3
    obtain ⟨⟨rfl,rfl⟩,rfl⟩:=hall3
    obtain ⟨g1,g2⟩:=bL.1 HV3.out
    obtain ⟨g3,g4⟩:=bL.1 HV4.out
    obtain ⟨g5,g6⟩:=bL.1 HV5.out
    obtain ⟨z,hz⟩ : ∃ z,decide (x.got=I+J+x.sold+x.missed)=z:=⟨_,rfl⟩
    have hzz:(x.got == I+J+x.sold+x.missed)=z:=by rw [← hz,Bool.eq_iff_iff]; simp
    have HZ:=Lib.hid hz; clear hz
    cases z
    all_goals
     go_enter Tryz.func82,Tryz.ntmps82
     go_wp2_with fail
     generalize w.alloc (.cells #[F x.TA x.t.length x.tc,F x.OA x.o.length x.oc,O U x.got,O U x.sold,O U x.missed] 40)=W at hb0 hS hR ⊢
     obtain ⟨s0,s1,s2,s3,s4⟩:=hS
     refine (aT (cT W hR)).mono ?_
     rintro e w1 ⟨rfl,q1,rfl⟩
     go_wp2_with fail
     refine (aK (Nat.le_refl _) (cO _ (hR.at q1))).mono ?_
     rintro e w2 ⟨rfl,q2,rfl⟩
     go_wp2_with fail
     refine (c3 _).mono ?_
     rintro e w3 ⟨rfl,rfl⟩
     go_wp2_with fail
     refine (c4 _).mono ?_
     rintro e w3 ⟨rfl,rfl⟩
     go_wp2_with fail
     refine (c5 _).mono ?_
     rintro e w3 ⟨rfl,rfl⟩
     go_wp2_with fail
     refine (aK (Nat.le_refl _) (cM _ (hR.at q2))).mono ?_
     rintro e w4 ⟨rfl,q4,rfl⟩
     go_wp2
     go_ret
     exact ⟨by rw [HG.out,HSM.out,HZ.out]; rfl,hb0.trans (q4.below.mono hb0.size)⟩
   ·have HGF:Hid (al x=false):=by
     unfold Hid; rw [HG.out]
     cases v3 <;> cases v4 <;> cases v5 <;> first | rfl | exact absurd rfl hall3
    cases v3
    all_goals (try cases v4)
    all_goals (try cases v5)
    all_goals first
     | exact absurd rfl hall3
     | skip
    all_goals
     clear hall3
     go_enter Tryz.func82,Tryz.ntmps82
     go_wp2_with fail
     generalize w.alloc (.cells #[F x.TA x.t.length x.tc,F x.OA x.o.length x.oc,O U x.got,O U x.sold,O U x.missed] 40)=W at hb0 hS hR ⊢
     obtain ⟨s0,s1,s2,s3,s4⟩:=hS
     refine (aT (cT W hR)).mono ?_
     rintro e w1 ⟨rfl,q1,rfl⟩
     go_wp2_with fail
     refine (aK (Nat.le_refl _) (cO _ (hR.at q1))).mono ?_
     rintro e w2 ⟨rfl,q2,rfl⟩
     go_wp2_with fail
     refine (c3 _).mono ?_
     rintro e w3 ⟨rfl,rfl⟩
     go_wp2_with (first | (go_at_call 132; with_reducible refine (c4 _).mono ?_; rintro e w4 ⟨rfl,rfl⟩) | (go_at_call 132; with_reducible refine (c5 _).mono ?_; rintro e w4 ⟨rfl,rfl⟩))
     go_ret
     exact ⟨by rw [HGF.out]; rfl,hb0.trans (q2.below.mono hb0.size)⟩
structure bX (w:World) (B g:Nat) (x:aL):Prop where
 s:mp B w g x
 lt:g < B
 r:aM w B x
theorem bX.of {w:World} {g:Nat} {t:TypeId} {x:aL} (h:ah w g t x.enc) (hr:aM w w.heap.size x):bX w w.heap.size g x:=⟨mp.of h,h.lt,hr⟩
theorem bX.then {w w' : World} {B g:Nat} {x:aL} (h:bX w B g x) (hb:Below B w w') {B' : Nat} (hB:B≤B'):bX w' B' g x :=
 ⟨⟨fun p=>h.s.c0 ⟨p.val,hb.trans (p.below.mono hB)⟩,fun p=>h.s.c1 ⟨p.val,hb.trans (p.below.mono hB)⟩,fun p=>h.s.c2 ⟨p.val,hb.trans (p.below.mono hB)⟩,fun p=>h.s.c3 ⟨p.val,hb.trans (p.below.mono hB)⟩,fun p=>h.s.c4 ⟨p.val,hb.trans (p.below.mono hB)⟩⟩,Nat.lt_of_lt_of_le h.lt hB,(h.r.below hb).mono hB⟩
theorem bX.at {w:World} {g:Nat} {x:aL} (h:bX w w.heap.size g x) (q:an w.heap.size w):bX q.val q.val.heap.size g x:=h.then q.below q.size
theorem nS (f:ap→Bool) (g:Nat) (lb:Array Value) (eg:∀ args w,(callFunc g args).run Tryz.prog w=.ok (.enter g args) w) (A:Option Addr) (c:Nat) (l:List ap) (w:World)
  (hf:∀ (t:ap) (p:an w.heap.size w),Calls Tryz.prog g (#[t.val]++lb) p.val fun e w'=>e=.returned (.bool (f t))∧Below p.val.heap.size p.val w') (h:fk w w.heap.size A l) :
  Calls Tryz.prog 164 #[F A l.length c,.func (.func g) #[] lb] w fun e w'=>e=.returned (O U (bi f 0 l))∧Below w.heap.size w w':=by
 have hl:=h.big
 have hrd:=h.el
 have HF:Hid (bi f 0 (l.drop 0)=bi f 0 l):=rfl
 have HC:=Lib.hid hf; clear hf
 go_enter Tryz.func164,Tryz.ntmps164
 go_wp2
 go_loopw [8] (fun i wr=>∃ (k:Nat),k≤l.length∧i=O U k∧(∃ q:an w.heap.size w,wr=q.val)∧Hid (bi f k (l.drop k)=bi f 0 l)) (fun i _=>l.length - (intOf i).toNat)
 case atStart=>exact ⟨0,Nat.zero_le _,rfl,⟨an.start _ _,rfl⟩,HF⟩
 case round =>
  obtain ⟨k,hk,rfl,⟨q,rfl⟩,HR⟩:=hrel
  by_cases hlt:k < l.length
  ·obtain ⟨b,off,rfl,hb,hcell⟩:=hrd (by omega)
   obtain ⟨c0,c1⟩:=hcell k hlt
   have hy:=fun hv=>qN (f:=f) hlt hv
   have hn:=fun hv=>sJ (f:=f) hlt hv
   obtain ⟨x,hxe⟩ : ∃ x,x=l[k]:=⟨_,rfl⟩
   rw [← hxe] at c0 c1 hy hn
   clear hxe hcell hrd
   cases hv:f x
   ·have HE:Hid (bi f (k+1) (l.drop (k+1))=bi f 0 l):=by rw [← hn hv]; exact HR.out
    have hcx:=fun p=>HC.out x p
    rw [hv] at hcx
    clear hy hn hv
    go_wp2_with fail
    refine (aK (Nat.le_refl _) (hcx _)).mono ?_
    rintro e w1 ⟨rfl,q1,rfl⟩
    go_wp2
    go_roundw
    case rel=>exact ⟨k+1,by omega,by go_num,⟨q1,rfl⟩,HE⟩
    case measure=>simp [intOf]; omega
   ·have HE:Hid ((k:Int)=bi f 0 l):=by rw [← hy hv]; exact HR.out
    have hcx:=fun p=>HC.out x p
    rw [hv] at hcx
    clear hy hn hv
    go_wp2_with fail
    refine (aK (Nat.le_refl _) (hcx _)).mono ?_
    rintro e w1 ⟨rfl,q1,rfl⟩
    go_wp2
    go_ret
    exact ⟨by rw [← HE.out]; rfl,q1.below⟩
  ·have HE:Hid (-1=bi f 0 l):=by
    have h1:=HR.out; rw [List.drop_eq_nil_of_le (by omega)] at h1; exact h1
   clear hrd
   go_wp2
   go_ret
   exact ⟨by rw [← HE.out]; rfl,q.below⟩
theorem pY (t:ap) (gk:Nat) (kd:Int) (w:World) (hk:gk < w.heap.size) (hc:w.cell? ⟨gk,0,none⟩=some (O U kd)) :
  Calls Tryz.prog 165 #[t.val,.pointer (some ⟨gk,0,none⟩)] w fun e w'=>e=.returned (.bool (decide (t.k=kd)))∧Below w.heap.size w w':=by
 have hc' : (w.alloc (.cells #[O U t.k,O U t.c] 104)).cell? ⟨gk,0,none⟩=some (O U kd):=((Below.refl w.heap.size w).alloc (Nat.le_refl _) _).cell hk |>.trans hc
 by_cases hz:t.k=kd
 all_goals
  obtain ⟨v,hv⟩ : ∃ v,(t.k == kd)=v:=⟨_,rfl⟩
  have HV:Hid (decide (t.k=kd)=v):=by rw [← hv]; unfold Hid; rw [Bool.eq_iff_iff]; simp
  clear hz
  go_enter Tryz.func165,Tryz.ntmps165
  go_wp2
  go_ret
  exact ⟨by rw [HV.out]; rfl,(Below.refl _ _).alloc (Nat.le_refl _) _⟩
theorem bc (x:aL) (g:Nat) (kd:Int) (w:World) (h:bX w w.heap.size g x) :
  Calls Tryz.prog 116 #[.pointer (some ⟨g,0,none⟩),O U kd] w fun e w'=>e=.returned (O U (au x.t kd))∧Below w.heap.size w w':=by
 have hmf:∀ (fn:Fn) (first cap:Array Value) (w:World),(Instr.makeFunc fn first cap).run Tryz.prog w=.ok (.func fn first cap) w:=fun _ _ _ _=>rfl
 have b1:=(Below.refl w.heap.size w).alloc (Nat.le_refl _) (.cells #[O U kd] 3)
 have hL:=ah.new w 3 #[O U kd]
 have hA:=h.then (B':=(w.alloc (.cells #[O U kd] 3)).heap.size) b1 b1.size
 have c0:(w.alloc (.cells #[O U kd] 3)).cell? ⟨g,0,none⟩=some (F x.TA x.t.length x.tc):=hA.s.c0 (an.start _ _)
 have HI:Hid (bi (fun t:ap=>decide (t.k=kd)) 0 x.t=au x.t kd):=rfl
 go_enter Tryz.func116,Tryz.ntmps116
 go_wp2_with fail
 clear c0
 generalize w.alloc (.cells #[O U kd] 3)=W at b1 hL hA ⊢
 refine (nS (fun t:ap=>decide (t.k=kd)) 165 #[.pointer (some ⟨w.heap.size,0,none⟩)] Tryz.call165 _ _ _ _ (fun t p=>pY t w.heap.size kd _ (Nat.lt_of_lt_of_le hL.lt p.size) ((p.cell hL.lt).trans (hL.cell 0))) hA.r.ts).mono ?_
 rintro e w1 ⟨rfl,hb1⟩
 rw [HI.out]
 go_wp2
 go_ret
 exact ⟨rfl,aq b1 hb1⟩
theorem bB (n:Int) (w:World):Calls Tryz.prog 117 #[O U n] w fun e w'=>e=.returned (.bool (bU n 1 999))∧w=w':=by
 go_enter Tryz.func117,Tryz.ntmps117
 go_wp2_with fail
 refine (aN n 1 999 _).mono ?_
 rintro e w' ⟨rfl,rfl⟩
 go_wp2
 go_ret
 exact ⟨rfl,rfl⟩
set_option maxHeartbeats 1000000 in
theorem iD (x:aL) (g:Nat) (w:World) (h:bX w w.heap.size g x) (tl:x.t.length≤8) (ht:∀ i (hi:i < x.t.length),x.t[i].ok=true) :
  Calls Tryz.prog 119 #[.pointer (some ⟨g,0,none⟩)] w fun e w'=>e=.returned (O U (cc x.t))∧Below w.heap.size w w':=by
 have HT:=Lib.hid ht; clear ht
 have HF:Hid (fP 0 (x.t.drop 0)=cc x.t):=rfl
 have s0:w.cell? ⟨g,0,none⟩=some (F x.TA x.t.length x.tc):=h.s.c0 (an.start _ _)
 have hrt:=h.r.ts.el
 go_enter Tryz.func119,Tryz.ntmps119
 go_wp2
 clear s0
 go_loopw [3,11] (fun s i wr=>∃ (k:Nat) (t:Int),k≤x.t.length∧i=O U k∧s=O U t∧(0≤t∧t≤9999 * (k:Int))∧(∃ q:an w.heap.size w,wr=q.val)∧Hid (fP t (x.t.drop k)=cc x.t)) (fun _ i _=>x.t.length - (intOf i).toNat)
 case atStart=>exact ⟨0,0,Nat.zero_le _,rfl,rfl,by omega,⟨an.start _ _,rfl⟩,HF⟩
 case round =>
  obtain ⟨k,t,hk,rfl,rfl,⟨t0,t1⟩,⟨q,rfl⟩,HR⟩:=hrel
  by_cases hlt:k < x.t.length
  ·obtain ⟨b,off,hA,hb,hcell⟩:=hrt (by omega)
   obtain ⟨e0,e1⟩:=hcell k hlt
   obtain ⟨_,x1,x2⟩:=ap.bounds (HT.out k hlt)
   have HS:=Lib.hid (qO hlt t)
   obtain ⟨r,hre⟩ : ∃ r,r=x.t[k]:=⟨_,rfl⟩
   rw [← hre] at e0 e1 HS x1 x2
   clear hre hcell hrt
   go_wp2
   go_roundw
   case rel=>exact ⟨k+1,t+r.c,by omega,by go_num,rfl,by omega,⟨⟨_,q.below.alloc q.size _⟩,rfl⟩,by have h1:=HR.out; rw [HS.out] at h1; exact h1⟩
   case measure=>simp [intOf]; omega
  ·have HE:Hid (t=cc x.t):=by
    have h1:=HR.out; rw [List.drop_eq_nil_of_le (by omega)] at h1; exact h1
   clear hrt
   go_wp2
   go_ret
   exact ⟨by rw [← HE.out]; rfl,q.below⟩
set_option maxHeartbeats 1000000 in
theorem eG (f:ae→Bool) (kf:Nat) (lb:Array Value) (eg:∀ args w,(callFunc kf args).run Tryz.prog w=.ok (.enter kf args) w) (x:aL) (g:Nat) (w:World)
  (hf:∀ (o:ae) (p:an w.heap.size w),Calls Tryz.prog kf (#[o.val]++lb) p.val fun e w'=>e=.returned (.bool (f o))∧Below p.val.heap.size p.val w')
  (h:bX w w.heap.size g x) (ol:x.o.length≤8) (ho:∀ i (hi:i < x.o.length),x.o[i].ok x.t=true) :
  Calls Tryz.prog 120 #[.pointer (some ⟨g,0,none⟩),.func (.func kf) #[] lb] w fun e w'=>e=.returned (O U (aS f x.o))∧Below w.heap.size w w':=by
 have HO:=Lib.hid ho; clear ho
 have HC:=Lib.hid hf; clear hf
 have HF:Hid (bs f 0 (x.o.drop 0)=aS f x.o):=rfl
 have s1:w.cell? ⟨g,1,none⟩=some (F x.OA x.o.length x.oc):=h.s.c1 (an.start _ _)
 have hro:=h.r.os.el
 generalize x.OA=OA at s1 hro
 go_enter Tryz.func120,Tryz.ntmps120
 go_wp2
 clear s1
 go_loopw [5,13] (fun s i wr=>∃ (k:Nat) (t:Int),k≤x.o.length∧i=O U k∧s=O U t∧(0≤t∧t≤9999 * (k:Int))∧(∃ q:an w.heap.size w,wr=q.val)∧Hid (bs f t (x.o.drop k)=aS f x.o)) (fun _ i _=>x.o.length - (intOf i).toNat)
 case atStart=>exact ⟨0,0,Nat.zero_le _,rfl,rfl,by omega,⟨an.start _ _,rfl⟩,HF⟩
 case round =>
  obtain ⟨k,t,hk,rfl,rfl,⟨t0,t1⟩,⟨q,rfl⟩,HR⟩:=hrel
  by_cases hlt:k < x.o.length
  ·obtain ⟨b,off,rfl,hb,hcell⟩:=hro (by omega)
   obtain ⟨e0,e1,e2⟩:=hcell k hlt
   obtain ⟨_,_,x1,x2⟩:=ae.bounds (HO.out k hlt)
   have HS:=Lib.hid (j0 (f:=f) hlt t)
   obtain ⟨r,hre⟩ : ∃ r,r=x.o[k]:=⟨_,rfl⟩
   rw [← hre] at e0 e1 e2 HS x1 x2
   clear hre hcell hro
   have hbV:=q.below.alloc q.size (.cells #[O U r.k,O U r.p,O U r.c] 147)
   have hlV:=ah.new q.val 147 #[O U r.k,O U r.p,O U r.c]
   have hcx:=fun p=>HC.out r p
   cases hv:f r
   all_goals
    rw [hv] at hcx HS
    clear hv
    go_wp2_with fail
    generalize q.val.alloc (.cells #[O U r.k,O U r.p,O U r.c] 147)=V at hbV hlV ⊢
    refine (hcx ⟨V,hbV⟩).mono ?_
    rintro e w1 ⟨rfl,hb1⟩
    have d2:=(hlV.below hb1 hlV.lt).cell 2
    simp only [List.getElem?_cons_zero,List.getElem?_cons_succ] at d2
    go_wp2
   ·go_roundw
    case rel=>exact ⟨k+1,t,by omega,by go_num,rfl,by omega,⟨⟨w1,hbV.trans (hb1.mono hbV.size)⟩,rfl⟩,by have h1:=HR.out; rw [HS.out] at h1; exact h1⟩
    case measure=>simp [intOf]; omega
   ·go_roundw
    case rel=>exact ⟨k+1,t+r.c,by omega,by go_num,rfl,by omega,⟨⟨w1,hbV.trans (hb1.mono hbV.size)⟩,rfl⟩,by have h1:=HR.out; rw [HS.out] at h1; exact h1⟩
    case measure=>simp [intOf]; omega
  ·have HE:Hid (t=aS f x.o):=by
    have h1:=HR.out; rw [List.drop_eq_nil_of_le (by omega)] at h1; exact h1
   clear hro
   go_wp2
   go_ret
   exact ⟨by rw [← HE.out]; rfl,q.below⟩
theorem pZ (o:ae) (w:World):Calls Tryz.prog 121 #[o.val] w fun e w'=>e=.returned (.bool true)∧Below w.heap.size w w':=by
 go_enter Tryz.func121,Tryz.ntmps121
 go_wp2
 go_ret
 exact ⟨rfl,(Below.refl _ _).alloc (Nat.le_refl _) _⟩
def gH (a b:Int):Int:=if a < b then -1 else if b < a then 1 else 0
theorem nu (a:Int) (w:World):Calls Tryz.prog 192 #[O U a] w fun e w'=>e=.returned (.bool false)∧w=w':=by
 have hv:(a != a)=false:=by simp
 go_enter Tryz.func192,Tryz.ntmps192
 go_wp2
 go_ret
 exact ⟨rfl,rfl⟩
theorem i7 (a b:Int) (w:World):Calls Tryz.prog 167 #[O U a,O U b] w fun e w'=>e=.returned (O U (gH a b))∧w=w':=by
 have ha:=fun W=>nu a W
 have hb:=fun W=>nu b W
 by_cases h1:a < b
 ·have HE:Hid (gH a b = -1):=by unfold Hid gH; rw [if_pos h1]
  go_enter Tryz.func167,Tryz.ntmps167
  go_wp2_with fail
  refine (ha _).mono ?_
  rintro e w' ⟨rfl,rfl⟩
  go_wp2_with fail
  refine (hb _).mono ?_
  rintro e w' ⟨rfl,rfl⟩
  go_wp2
  go_ret
  exact ⟨by rw [HE.out]; rfl,rfl⟩
 ·by_cases h2:b < a
  ·have HE:Hid (gH a b=1):=by unfold Hid gH; rw [if_neg h1,if_pos h2]
   go_enter Tryz.func167,Tryz.ntmps167
   go_wp2_with fail
   refine (ha _).mono ?_
   rintro e w' ⟨rfl,rfl⟩
   go_wp2_with fail
   refine (hb _).mono ?_
   rintro e w' ⟨rfl,rfl⟩
   go_wp2
   go_ret
   exact ⟨by rw [HE.out]; rfl,rfl⟩
  ·have HE:Hid (gH a b=0):=by unfold Hid gH; rw [if_neg h1,if_neg h2]
   go_enter Tryz.func167,Tryz.ntmps167
   go_wp2_with fail
   refine (ha _).mono ?_
   rintro e w' ⟨rfl,rfl⟩
   go_wp2_with fail
   refine (hb _).mono ?_
   rintro e w' ⟨rfl,rfl⟩
   go_wp2
   go_ret
   exact ⟨by rw [HE.out]; rfl,rfl⟩
def tF (a b:Int):Int:=if a=0 then b else a
theorem tG (a b:Int) (g c:Nat) (w:World) (h0:w.cell? ⟨g,0,none⟩=some (O U a)) (h1:w.cell? ⟨g,1,none⟩=some (O U b)) :
  Calls Tryz.prog 166 #[F (some ⟨g,0,none⟩) 2 c] w fun e w'=>e=.returned (O U (tF a b))∧w=w':=by
 by_cases ha:a=0
 ·have va:(a != 0)=false:=by simp [ha]
  have HE:Hid (tF a b=b):=by unfold Hid tF; rw [if_pos ha]
  clear ha
  by_cases hb:b=0
  ·have vb:(b != 0)=false:=by simp [hb]
   have HB:=Lib.hid hb; clear hb
   go_enter Tryz.func166,Tryz.ntmps166
   go_wp2
   refine wp_loop_rounds 3 ?_
   rw [rounds_succ]
   go_wp2
   rw [rounds_succ]
   go_wp2
   rw [rounds_succ]
   go_wp2
   go_ret
   exact ⟨by rw [HE.out,HB.out]; rfl,rfl⟩
  ·have vb:(b != 0)=true:=by simp [hb]
   clear hb
   go_enter Tryz.func166,Tryz.ntmps166
   go_wp2
   refine wp_loop_rounds 2 ?_
   rw [rounds_succ]
   go_wp2
   rw [rounds_succ]
   go_wp2
   go_ret
   exact ⟨by rw [HE.out]; rfl,rfl⟩
 ·have va:(a != 0)=true:=by simp [ha]
  have HE:Hid (tF a b=a):=by unfold Hid tF; rw [if_neg ha]
  clear ha
  go_enter Tryz.func166,Tryz.ntmps166
  go_wp2
  refine wp_loop_rounds 1 ?_
  rw [rounds_succ]
  go_wp2
  go_ret
  exact ⟨by rw [HE.out]; rfl,rfl⟩
def iE (a b:ae):Int:=tF (gH a.k b.k) (gH a.p b.p)
theorem lz (a b:ae):decide (0≤iE a b) = !(before a b):=by
 unfold iE tF gH before
 by_cases h1:a.k < b.k
 ·simp [h1]
 ·by_cases h2:b.k < a.k
  ·have h3:a.k ≠ b.k:=by omega
   simp [h1,h2,h3]
  ·have h3:a.k=b.k:=by omega
   by_cases h4:a.p < b.p
   ·simp [h3,h4]
   ·by_cases h5:b.p < a.p
    ·simp [h3,h4,h5]
    ·simp [h3,h4,h5]
set_option maxHeartbeats 1000000 in
theorem gn (a b:ae) (w:World):Calls Tryz.prog 118 #[a.val,b.val] w fun e w'=>e=.returned (O U (iE a b))∧Below w.heap.size w w':=by
 have b1:=(Below.refl w.heap.size w).alloc (Nat.le_refl _) (.cells #[O U a.k,O U a.p,O U a.c] 147)
 have b2:=b1.alloc b1.size (.cells #[O U b.k,O U b.p,O U b.c] 147)
 have L1:=(ah.new w 147 #[O U a.k,O U a.p,O U a.c]).alloc (.cells #[O U b.k,O U b.p,O U b.c] 147)
 have L2:=ah.new1 w (.cells #[O U a.k,O U a.p,O U a.c] 147) 147 #[O U b.k,O U b.p,O U b.c]
 clear b1
 obtain ⟨X,hX⟩ : ∃ X,gH a.k b.k=X:=⟨_,rfl⟩
 obtain ⟨Y,hY⟩ : ∃ Y,gH a.p b.p=Y:=⟨_,rfl⟩
 have HO:Hid (iE a b=tF X Y):=by rw [← hX,← hY]; rfl
 have cX:=fun W=>i7 a.k b.k W
 have cY:=fun W=>i7 a.p b.p W
 rw [hX] at cX
 rw [hY] at cY
 clear hX hY
 go_enter Tryz.func118,Tryz.ntmps118
 go_wp2
 generalize ((w.alloc (.cells #[O U a.k,O U a.p,O U a.c] 147)).alloc (.cells #[O U b.k,O U b.p,O U b.c] 147))=W at b2 L1 L2 ⊢
 have c0:=L1.cell 0
 have c1:=L1.cell 1
 have d0:=L2.cell 0
 have d1:=L2.cell 1
 simp only [List.getElem?_cons_zero,List.getElem?_cons_succ] at c0 c1 d0 d1
 have HK:∀ W',Below W.heap.size W W'→(Below W.heap.size W W'∧W'.cell? ⟨w.heap.size,0,none⟩=some (O U a.k)∧W'.cell? ⟨w.heap.size,1,none⟩=some (O U a.p)∧W'.cell? ⟨w.heap.size+1,0,none⟩=some (O U b.k)∧W'.cell? ⟨w.heap.size+1,1,none⟩=some (O U b.p)):=fun W' hb =>
  ⟨hb,(hb.cell L1.lt).trans c0,(hb.cell L1.lt).trans c1,(hb.cell L2.lt).trans d0,(hb.cell L2.lt).trans d1⟩
 have HL0:(W.alloc (.cells #[O U X,O U Y] 3)).drew.cell? ⟨W.heap.size,0,none⟩=some (O U X):=(ah.new W 3 #[O U X,O U Y]).cell 0
 have HL1:(W.alloc (.cells #[O U X,O U Y] 3)).drew.cell? ⟨W.heap.size,1,none⟩=some (O U Y):=(ah.new W 3 #[O U X,O U Y]).cell 1
 go_region_held3 (fun W'=>Below W.heap.size W W'∧W'.cell? ⟨w.heap.size,0,none⟩=some (O U a.k)∧W'.cell? ⟨w.heap.size,1,none⟩=some (O U a.p)∧W'.cell? ⟨w.heap.size+1,0,none⟩=some (O U b.k)∧W'.cell? ⟨w.heap.size+1,1,none⟩=some (O U b.p)) (first | exact HK _ (Below.refl _ _).drew | exact HK _ (((Below.refl _ _).drew).alloc (by first | exact Nat.le_refl _ | simp) _) | (exact HK _ (by assumption))) (first | (go_at_call 167; with_reducible refine (cX _).mono ?_; rintro e w8 ⟨rfl,rfl⟩) | (go_at_call 167; with_reducible refine (cY _).mono ?_; rintro e w8 ⟨rfl,rfl⟩) | (go_at_call 166; refine (tG X Y W.heap.size 2 (W.alloc (.cells #[O U X,O U Y] 3)).drew HL0 HL1).mono ?_; rintro e w9 ⟨rfl,rfl⟩))
 all_goals
  go_wp2
  go_ret
  exact ⟨by rw [HO.out]; rfl,aq b2 ((Below.refl W.heap.size W).alloc (Nat.le_refl _) _).drew⟩
set_option maxRecDepth 100000 in
set_option maxHeartbeats 2000000 in
theorem kM (x:aL) (g:Nat) (w:World) (h:bX w w.heap.size g x) (hno:(eR x && iB x)=false) :
  Calls Tryz.prog 67 #[.pointer (some ⟨g,0,none⟩)] w fun e w'=>e=.returned (.bool (al x))∧Below w.heap.size w w':=by
 have s0:w.cell? ⟨g,0,none⟩=some (F x.TA x.t.length x.tc):=h.s.c0 (an.start _ _)
 have s1:w.cell? ⟨g,1,none⟩=some (F x.OA x.o.length x.oc):=h.s.c1 (an.start _ _)
 have s2:w.cell? ⟨g,2,none⟩=some (O U x.got):=h.s.c2 (an.start _ _)
 have s3:w.cell? ⟨g,3,none⟩=some (O U x.sold):=h.s.c3 (an.start _ _)
 have s4:w.cell? ⟨g,4,none⟩=some (O U x.missed):=h.s.c4 (an.start _ _)
 have hl:=h.r.ts.big
 have hm:=h.r.os.big
 have c3:=fun W=>aN x.got 0 99999 W
 have c4:=fun W=>aN x.sold 0 99999 W
 have c5:=fun W=>aN x.missed 0 99999 W
 have HNO:=Lib.hid hno; clear hno
 have HG:Hid (al x=(eR x && (bU x.got 0 99999 && bU x.sold 0 99999 && bU x.missed 0 99999) && eQ x.t && eF x.t x.o && lw x)):=rfl
 by_cases hz:x.t.length≤8∧x.o.length≤8
 ·obtain ⟨tl,ol⟩:=hz
  have HZ:Hid (eR x=true):=by unfold Hid eR; rw [decide_eq_true tl,decide_eq_true ol]; rfl
  obtain ⟨v3,hv3⟩ : ∃ v,bU x.got 0 99999=v:=⟨_,rfl⟩
  obtain ⟨v4,hv4⟩ : ∃ v,bU x.sold 0 99999=v:=⟨_,rfl⟩
  obtain ⟨v5,hv5⟩ : ∃ v,bU x.missed 0 99999=v:=⟨_,rfl⟩
  rw [hv3] at c3
  rw [hv4] at c4
  rw [hv5] at c5
  rw [hv3,hv4,hv5] at HG
  have HV3:=Lib.hid hv3; clear hv3
  have HV4:=Lib.hid hv4; clear hv4
  have HV5:=Lib.hid hv5; clear hv5
  by_cases hall3:(v3 && v4 && v5)=true
  ·exfalso
   have hn:iB x=true:=by unfold iB; rw [HV3.out,HV4.out,HV5.out]; exact hall3
   have hno:=HNO.out
   rw [HZ.out,hn] at hno; cases hno
  ·have HGF:Hid (al x=false):=by
    unfold Hid; rw [HG.out,HZ.out]
    cases v3 <;> cases v4 <;> cases v5 <;> first | rfl | exact absurd rfl hall3
   cases v3
   all_goals (try cases v4)
   all_goals (try cases v5)
   all_goals first
    | exact absurd rfl hall3
    | skip
   all_goals
    clear hall3
    go_enter Tryz.func67,Tryz.ntmps67
    go_wp2_with fail
    refine (c3 _).mono ?_
    rintro e w3 ⟨rfl,rfl⟩
    go_wp2_with (first | (go_at_call 75; with_reducible refine (c4 _).mono ?_; rintro e w4 ⟨rfl,rfl⟩) | (go_at_call 75; with_reducible refine (c5 _).mono ?_; rintro e w4 ⟨rfl,rfl⟩))
    go_ret
    exact ⟨by rw [HGF.out]; rfl,Below.refl _ _⟩
 ·have HGF:Hid (al x=false):=by
   unfold Hid; rw [HG.out]
   have:eR x=false:=by
    unfold eR
    by_cases h1:x.t.length≤8
    ·rw [decide_eq_false (show ¬ x.o.length≤8 from fun h2=>hz ⟨h1,h2⟩),Bool.and_false]
    ·rw [decide_eq_false h1,Bool.false_and]
   rw [this]; rfl
  by_cases h1:x.t.length≤8
  ·have h2 : ¬ x.o.length≤8:=fun h2=>hz ⟨h1,h2⟩
   clear hz
   go_enter Tryz.func67,Tryz.ntmps67
   go_wp2
   go_ret
   exact ⟨by rw [HGF.out]; rfl,Below.refl _ _⟩
  ·clear hz
   go_enter Tryz.func67,Tryz.ntmps67
   go_wp2
   go_ret
   exact ⟨by rw [HGF.out]; rfl,Below.refl _ _⟩
theorem p8 (o:ae) (w:World):Calls Tryz.prog 121 (#[o.val]++#[]) w fun e w'=>e=.returned (.bool (cm o))∧Below w.heap.size w w':=pZ o w
set_option maxRecDepth 100000 in
set_option maxHeartbeats 4000000 in
theorem ke (x:aL) (g:Nat) (w:World) (h:bX w w.heap.size g x) (hyes:(eR x && iB x)=true) :
  Calls Tryz.prog 67 #[.pointer (some ⟨g,0,none⟩)] w fun e w'=>e=.returned (.bool (al x))∧Below w.heap.size w w':=by
 have s0:w.cell? ⟨g,0,none⟩=some (F x.TA x.t.length x.tc):=h.s.c0 (an.start _ _)
 have s1:w.cell? ⟨g,1,none⟩=some (F x.OA x.o.length x.oc):=h.s.c1 (an.start _ _)
 have s2:w.cell? ⟨g,2,none⟩=some (O U x.got):=h.s.c2 (an.start _ _)
 have s3:w.cell? ⟨g,3,none⟩=some (O U x.sold):=h.s.c3 (an.start _ _)
 have s4:w.cell? ⟨g,4,none⟩=some (O U x.missed):=h.s.c4 (an.start _ _)
 have c3:=fun W=>aN x.got 0 99999 W
 have c4:=fun W=>aN x.sold 0 99999 W
 have c5:=fun W=>aN x.missed 0 99999 W
 have HG:Hid (al x=(eQ x.t && eF x.t x.o && lw x)):=by
  unfold Hid al; rw [hyes,Bool.true_and]
 rw [Bool.and_eq_true] at hyes
 have hz:=hyes.1
 have hn:=hyes.2
 unfold eR at hz
 unfold iB at hn
 rw [Bool.and_eq_true] at hz hn
 rw [Bool.and_eq_true] at hn
 obtain ⟨⟨hv3,hv4⟩,hv5⟩:=hn
 have tl:x.t.length≤8:=of_decide_eq_true hz.1
 have ol:x.o.length≤8:=of_decide_eq_true hz.2
 clear hz hyes
 rw [hv3] at c3
 rw [hv4] at c4
 rw [hv5] at c5
 obtain ⟨g1,g2⟩:=bL.1 hv3
 obtain ⟨g3,g4⟩:=bL.1 hv4
 obtain ⟨g5,g6⟩:=bL.1 hv5
 clear hv3 hv4 hv5
 have hrt:=h.r.ts.el
 have hro:=h.r.os.el
 obtain ⟨p0,p1,p2,p3,p4⟩:=h.s
 obtain ⟨TA,hTA⟩ : ∃ A,x.TA=A:=⟨_,rfl⟩
 obtain ⟨OA,hOA⟩ : ∃ A,x.OA=A:=⟨_,rfl⟩
 rw [hTA] at s0 hrt
 rw [hOA] at s1 hro
 simp only [hTA] at p0
 simp only [hOA] at p1
 clear hTA hOA
 go_enter Tryz.func67,Tryz.ntmps67
 go_wp2_with fail
 refine (c3 _).mono ?_
 rintro e w3 ⟨rfl,rfl⟩
 go_wp2_with fail
 refine (c4 _).mono ?_
 rintro e w3 ⟨rfl,rfl⟩
 go_wp2_with fail
 refine (c5 _).mono ?_
 rintro e w3 ⟨rfl,rfl⟩
 go_wp2
 clear s0 s1 s2 s3 s4 c3 c4 c5
 go_loopw [50] (fun i wr=>∃ (k:Nat) (prev:Int),k≤x.t.length∧i=O U k∧(∃ q:an w.heap.size w,wr=q.val)∧Hid (cF k prev (x.t.drop k)=eQ x.t)∧Hid (∀ (_hk:0 < k) (h' : k - 1 < x.t.length),prev=x.t[k - 1].k)) (fun i _=>x.t.length - (intOf i).toNat)
 case atStart=>exact ⟨0,0,Nat.zero_le _,rfl,⟨an.start _ _,rfl⟩,rfl,fun h=>absurd h (by omega)⟩
 case round =>
  obtain ⟨k,prev,hk,rfl,⟨q,rfl⟩,HR,HP⟩:=hrel
  by_cases hlt:k < x.t.length
  ·obtain ⟨b,off,rfl,hb,hcell⟩:=hrt (by omega)
   obtain ⟨e0,e1⟩:=hcell k hlt
   have HC:Hid (0 < k→∀ p:an w.heap.size w,p.val.cell? ⟨b,off+(k - 1) * 2,none⟩=some (O U prev)):=fun h p=>by
    rw [HP.out h (by omega)]; exact (hcell (k - 1) (by omega)).c0 p
   have HS:=Lib.hid (mq (n:=k) (p:=prev) hlt)
   obtain ⟨r,hre⟩ : ∃ r,r=x.t[k]:=⟨_,rfl⟩
   have HN:Hid (∀ (_hk:0 < k+1) (h' : k+1 - 1 < x.t.length),r.k=x.t[k+1 - 1].k):=fun _ h'=>by rw [hre]; rfl
   rw [← hre] at e0 e1 HS
   clear hre hcell hrt hro
   go_wp2
   have hbV:=q.below.alloc q.size (.cells #[O U r.k,O U r.c] 104)
   have hlV:=ah.new q.val 104 #[O U r.k,O U r.c]
   generalize q.val.alloc (.cells #[O U r.k,O U r.c] 104)=V at hbV hlV ⊢
   generalize q.val.heap.size=gv at hlV ⊢
   obtain ⟨d0,d1⟩:=lv.of (r:=r) hlV
   have p0' : ∀ p:an V.heap.size V,p.val.cell? ⟨g,0,none⟩=some (F (some ⟨b,off,none⟩) x.t.length x.tc):=fun p=>p0 ⟨p.val,hbV.trans (p.below.mono hbV.size)⟩
   have HOK:Hid (r.ok=(bU r.k 1 99 && bU r.c 0 9999)):=rfl
   clear e0 e1
   obtain ⟨v1,hv1⟩ : ∃ v,bU r.k 1 99=v:=⟨_,rfl⟩
   obtain ⟨v2,hv2⟩ : ∃ v,bU r.c 0 9999=v:=⟨_,rfl⟩
   rw [hv1,hv2] at HOK
   have HV1:=Lib.hid hv1; clear hv1
   have HV2:=Lib.hid hv2; clear hv2
   rcases Nat.eq_zero_or_pos k with h0 | h0
   ·have hd:decide (0 < k)=false:=decide_eq_false (by omega)
    have H0:=Lib.hid h0; clear h0
    cases v1
    ·refine ar (by kernel_rfl) (by kernel_rfl) ?_
     repeat (any_goals (first | go_big_quiet_step ((go_at_call 75; with_reducible refine ay HV1 (aN r.k 1 99 _))) | (refine wpQuiet_step (fun K hK=>?_); go_simp; split <;> (refine hK _ ?_; clear hK K))))
     all_goals (refine wpQuiet_nil ?_; rintro _ ⟨q1,rfl⟩)
     all_goals have hb1:=hbV.trans (q1.below.mono hbV.size)
     all_goals go_wp2
     go_ret
     refine ⟨?_,hb1⟩
     rw [HG.out,← HR.out,HS.out,HOK.out]; rfl
    ·cases v2
     all_goals
      refine ar (by kernel_rfl) (by kernel_rfl) ?_
      repeat (any_goals (first | go_big_quiet_step ((first | (go_at_call 75; with_reducible refine ay HV1 (aN r.k 1 99 _)) | (go_at_call 75; with_reducible refine ay HV2 (aN r.c 0 9999 _)))) | (refine wpQuiet_step (fun K hK=>?_); go_simp; split <;> (refine hK _ ?_; clear hK K))))
      all_goals (refine wpQuiet_nil ?_; rintro _ ⟨q1,rfl⟩)
      all_goals have hb1:=hbV.trans (q1.below.mono hbV.size)
      all_goals go_wp2
     ·go_ret
      refine ⟨?_,hb1⟩
      rw [HG.out,← HR.out,HS.out,HOK.out]; rfl
     ·go_roundw
      case rel=>exact ⟨k+1,r.k,by omega,by go_num,⟨⟨_,hbV.trans (q1.below.mono hbV.size)⟩,rfl⟩,by have h1:=HR.out; rw [HS.out,HOK.out,decide_eq_true H0.out] at h1; exact h1,HN⟩
      case measure=>simp [intOf]; omega
   ·have c5:∀ p:an V.heap.size V,p.val.cell? ⟨b,off+(k - 1) * 2,none⟩=some (O U prev):=fun p=>HC.out h0 ⟨p.val,hbV.trans (p.below.mono hbV.size)⟩
    have h0' : (0:Int) < (k:Int):=by omega
    cases v1
    ·refine ar (by kernel_rfl) (by kernel_rfl) ?_
     repeat (any_goals (first | go_big_quiet_step ((go_at_call 75; with_reducible refine ay HV1 (aN r.k 1 99 _))) | (refine wpQuiet_step (fun K hK=>?_); go_simp; split <;> (refine hK _ ?_; clear hK K))))
     all_goals (refine wpQuiet_nil ?_; rintro _ ⟨q1,rfl⟩)
     all_goals have hb1:=hbV.trans (q1.below.mono hbV.size)
     all_goals go_wp2
     go_ret
     refine ⟨?_,hb1⟩
     rw [HG.out,← HR.out,HS.out,HOK.out]; rfl
    ·cases v2
     all_goals
      refine ar (by kernel_rfl) (by kernel_rfl) ?_
      repeat (any_goals (first | go_big_quiet_step ((first | (go_at_call 75; with_reducible refine ay HV1 (aN r.k 1 99 _)) | (go_at_call 75; with_reducible refine ay HV2 (aN r.c 0 9999 _)))) | (refine wpQuiet_step (fun K hK=>?_); go_simp; split <;> (refine hK _ ?_; clear hK K))))
      all_goals (refine wpQuiet_nil ?_; rintro _ ⟨q1,rfl⟩)
      all_goals have hb1:=hbV.trans (q1.below.mono hbV.size)
      all_goals go_wp2
     ·go_ret
      refine ⟨?_,hb1⟩
      rw [HG.out,← HR.out,HS.out,HOK.out]; rfl
     ·go_ret
      refine ⟨?_,hb1⟩
      have hm:r.k≤prev:=by assumption
      rw [HG.out,← HR.out,HS.out,HOK.out,decide_eq_false (by omega : ¬ k=0),decide_eq_false (by omega : ¬ prev < r.k)]; rfl
     ·have hm:prev < r.k:=by assumption
      go_roundw
      case rel=>exact ⟨k+1,r.k,by omega,by go_num,⟨⟨_,hbV.trans (q1.below.mono hbV.size)⟩,rfl⟩,by have h1:=HR.out; rw [HS.out,HOK.out,decide_eq_true hm,Bool.or_true] at h1; exact h1,HN⟩
      case measure=>simp [intOf]; omega
  ·have hK:eQ x.t=true:=by
    have h1:=HR.out
    rw [List.drop_eq_nil_of_le (by omega)] at h1; exact h1.symm
   have HALL:=Lib.hid (fG _ _ _ hK)
   have HK:=Lib.hid hK; clear hK
   have hq1:=p1 q
   clear hrt
   go_wp2
   go_loopw [89] (fun i wr=>∃ (k:Nat) (prev:Option ae),k≤x.o.length∧i=O U k∧(∃ q:an w.heap.size w,wr=q.val)∧Hid (dx x.t prev (x.o.drop k)=eF x.t x.o)∧Hid ((k=0→prev=none)∧∀ (_hk:0 < k) (h' : k - 1 < x.o.length),prev=some x.o[k - 1]∧x.o[k - 1].ok x.t=true)) (fun i _=>x.o.length - (intOf i).toNat)
   case atStart=>exact ⟨0,none,Nat.zero_le _,rfl,⟨q,rfl⟩,rfl,fun _=>rfl,fun h=>absurd h (by omega)⟩
   case round =>
    clear hlt HR HP hq1
    obtain ⟨k,prev,hk,rfl,⟨q,rfl⟩,HR,HP⟩:=hrel
    by_cases hlt:k < x.o.length
    ·obtain ⟨b,off,rfl,hb,hcell⟩:=hro (by omega)
     obtain ⟨e0,e1,e2⟩:=hcell k hlt
     have HS:=Lib.hid (nr (ts:=x.t) (p:=prev) hlt)
     obtain ⟨r,hre⟩ : ∃ r,r=x.o[k]:=⟨_,rfl⟩
     have HN:Hid (r.ok x.t=true→(k+1=0→some r=none)∧∀ (_hk:0 < k+1) (h' : k+1 - 1 < x.o.length),some r=some x.o[k+1 - 1]∧x.o[k+1 - 1].ok x.t=true):=fun ho=>⟨fun h=>by omega,fun _ h'=>⟨by rw [hre]; rfl,by rw [hre] at ho; exact ho⟩⟩
     have HC:Hid (∀ _:0 < k,∃ u:ae,prev=some u∧u.ok x.t=true∧fl w.heap.size w b (off+(k - 1) * 3) u):=fun h=>⟨x.o[k - 1],(HP.out.2 h (by omega)).1,(HP.out.2 h (by omega)).2,hcell (k - 1) (by omega)⟩
     rw [← hre] at e0 e1 e2 HS
     clear hre hcell hro
     go_wp2
     have hbV:=q.below.alloc q.size (.cells #[O U r.k,O U r.p,O U r.c] 147)
     have hlV:=ah.new q.val 147 #[O U r.k,O U r.p,O U r.c]
     generalize q.val.alloc (.cells #[O U r.k,O U r.p,O U r.c] 147)=V at hbV hlV ⊢
     generalize q.val.heap.size=gv at hlV ⊢
     obtain ⟨d0,d1,d2⟩:=fl.of (r:=r) hlV
     have up:∀ {a:Addr} {u:Value},(∀ p:an w.heap.size w,p.val.cell? a=some u)→∀ p:an V.heap.size V,p.val.cell? a=some u:=fun h p=>h ⟨p.val,hbV.trans (p.below.mono hbV.size)⟩
     have z1:=up p1
     have hAV:∀ p:an V.heap.size V,bX p.val p.val.heap.size g x:=fun p=>h.at ⟨p.val,hbV.trans (p.below.mono hbV.size)⟩
     have HOK:Hid (r.ok x.t=(aO x.t r.k && bU r.p 1 999 && bU r.c 1 9999)):=rfl
     clear e0 e1 e2
     obtain ⟨X,hX⟩ : ∃ X,au x.t r.k=X:=⟨_,rfl⟩
     have HX:Hid (Value.int .i64 (au x.t r.k)=O U X):=by rw [hX]; rfl
     have HH:Hid (aO x.t r.k=decide (0≤X)):=by rw [← hX]; exact (de _ _).symm
     obtain ⟨v2,hv2⟩ : ∃ v,bU r.p 1 999=v:=⟨_,rfl⟩
     obtain ⟨v3,hv3⟩ : ∃ v,bU r.c 1 9999=v:=⟨_,rfl⟩
     rw [hv2,hv3] at HOK
     have HV2:=Lib.hid hv2; clear hv2
     have HV3:=Lib.hid hv3; clear hv3
     clear hX
     by_cases hX0:0≤X
     ·have hd0:decide (X < 0)=false:=decide_eq_false (by omega)
      have HXT:Hid (decide (0≤X)=true):=decide_eq_true hX0
      cases v2
      ·rcases Nat.eq_zero_or_pos k with h0 | h0
       ·have hd:decide (0 < k)=false:=decide_eq_false (by omega)
        clear h0
        refine ar (by kernel_rfl) (by kernel_rfl) ?_
        repeat (any_goals (first | go_big_quiet_step ((first | (go_at_call 116; with_reducible refine aQ HX (Nat.le_refl _) (bc x g r.k _ (hAV _))) | (go_at_call 117; with_reducible refine ay HV2 (bB r.p _)))) | (refine wpQuiet_step (fun K hK=>?_); go_simp; split <;> (refine hK _ ?_; clear hK K))))
        all_goals (refine wpQuiet_nil ?_; rintro _ ⟨q1,rfl⟩)
        all_goals have hb1:=hbV.trans (q1.below.mono hbV.size)
        all_goals go_wp2
        go_ret
        refine ⟨?_,hb1⟩
        rw [HG.out,HK.out,← HR.out,HS.out,HOK.out,Bool.and_false]; rfl
       ·have h0' : (0:Int) < (k:Int):=by omega
        refine ar (by kernel_rfl) (by kernel_rfl) ?_
        repeat (any_goals (first | go_big_quiet_step ((first | (go_at_call 116; with_reducible refine aQ HX (Nat.le_refl _) (bc x g r.k _ (hAV _))) | (go_at_call 117; with_reducible refine ay HV2 (bB r.p _)))) | (refine wpQuiet_step (fun K hK=>?_); go_simp; split <;> (refine hK _ ?_; clear hK K))))
        all_goals (refine wpQuiet_nil ?_; rintro _ ⟨q1,rfl⟩)
        all_goals have hb1:=hbV.trans (q1.below.mono hbV.size)
        all_goals go_wp2
        go_ret
        refine ⟨?_,hb1⟩
        rw [HG.out,HK.out,← HR.out,HS.out,HOK.out,Bool.and_false]; rfl
      ·cases v3
       ·rcases Nat.eq_zero_or_pos k with h0 | h0
        ·have hd:decide (0 < k)=false:=decide_eq_false (by omega)
         clear h0
         refine ar (by kernel_rfl) (by kernel_rfl) ?_
         repeat (any_goals (first | go_big_quiet_step ((first | (go_at_call 116; with_reducible refine aQ HX (Nat.le_refl _) (bc x g r.k _ (hAV _))) | (go_at_call 117; with_reducible refine ay HV2 (bB r.p _)) | (go_at_call 75; with_reducible refine ay HV3 (aN r.c 1 9999 _)))) | (refine wpQuiet_step (fun K hK=>?_); go_simp; split <;> (refine hK _ ?_; clear hK K))))
         all_goals (refine wpQuiet_nil ?_; rintro _ ⟨q1,rfl⟩)
         all_goals have hb1:=hbV.trans (q1.below.mono hbV.size)
         all_goals go_wp2
         go_ret
         refine ⟨?_,hb1⟩
         rw [HG.out,HK.out,← HR.out,HS.out,HOK.out,Bool.and_false]; rfl
        ·have h0' : (0:Int) < (k:Int):=by omega
         refine ar (by kernel_rfl) (by kernel_rfl) ?_
         repeat (any_goals (first | go_big_quiet_step ((first | (go_at_call 116; with_reducible refine aQ HX (Nat.le_refl _) (bc x g r.k _ (hAV _))) | (go_at_call 117; with_reducible refine ay HV2 (bB r.p _)) | (go_at_call 75; with_reducible refine ay HV3 (aN r.c 1 9999 _)))) | (refine wpQuiet_step (fun K hK=>?_); go_simp; split <;> (refine hK _ ?_; clear hK K))))
         all_goals (refine wpQuiet_nil ?_; rintro _ ⟨q1,rfl⟩)
         all_goals have hb1:=hbV.trans (q1.below.mono hbV.size)
         all_goals go_wp2
         go_ret
         refine ⟨?_,hb1⟩
         rw [HG.out,HK.out,← HR.out,HS.out,HOK.out,Bool.and_false]; rfl
       ·have HRO:Hid (r.ok x.t=true):=by unfold Hid; rw [HOK.out,HH.out,HXT.out]; rfl
        rcases Nat.eq_zero_or_pos k with h0 | h0
        ·have hd:decide (0 < k)=false:=decide_eq_false (by omega)
         have HP0:Hid (prev=none):=HP.out.1 h0
         clear h0
         refine ar (by kernel_rfl) (by kernel_rfl) ?_
         repeat (any_goals (first | go_big_quiet_step ((first | (go_at_call 116; with_reducible refine aQ HX (Nat.le_refl _) (bc x g r.k _ (hAV _))) | (go_at_call 117; with_reducible refine ay HV2 (bB r.p _)) | (go_at_call 75; with_reducible refine ay HV3 (aN r.c 1 9999 _)))) | (refine wpQuiet_step (fun K hK=>?_); go_simp; split <;> (refine hK _ ?_; clear hK K))))
         all_goals (refine wpQuiet_nil ?_; rintro _ ⟨q1,rfl⟩)
         all_goals have hb1:=hbV.trans (q1.below.mono hbV.size)
         all_goals go_wp2
         go_roundw
         case rel=>exact ⟨k+1,some r,by omega,by go_num,⟨⟨_,hb1⟩,rfl⟩,by have h1:=HR.out; rw [HS.out,HRO.out,HP0.out] at h1; exact h1,HN.out HRO.out⟩
         case measure=>simp [intOf]; omega
        ·have h0' : (0:Int) < (k:Int):=by omega
         obtain ⟨u,hpu,huo,⟨t0,t1,t2⟩⟩:=HC.out h0
         have t0:=up t0
         have t1:=up t1
         have t2:=up t2
         subst hpu
         have HS2:Hid (dx x.t (some u) (x.o.drop k)=(r.ok x.t && before u r && dx x.t (some r) (x.o.drop (k+1)))):=HS.out
         obtain ⟨C,hC⟩ : ∃ C,iE u r=C:=⟨_,rfl⟩
         have HCM:Hid (Value.int .i64 (iE u r)=O U C):=by rw [hC]; rfl
         have HB:Hid (decide (0≤C) = !(before u r)):=by rw [← hC]; exact lz u r
         clear hC huo up
         refine ar (by kernel_rfl) (by kernel_rfl) ?_
         repeat (any_goals (first | go_big_quiet_step ((first | (go_at_call 116; with_reducible refine aQ HX (Nat.le_refl _) (bc x g r.k _ (hAV _))) | (go_at_call 117; with_reducible refine ay HV2 (bB r.p _)) | (go_at_call 75; with_reducible refine ay HV3 (aN r.c 1 9999 _)) | (go_at_call 118; with_reducible refine aQ HCM (Nat.le_refl _) (gn u r _)))) | (refine wpQuiet_step (fun K hK=>?_); go_simp; split <;> (refine hK _ ?_; clear hK K))))
         all_goals (refine wpQuiet_nil ?_; rintro _ ⟨q1,rfl⟩)
         all_goals have hb1:=hbV.trans (q1.below.mono hbV.size)
         all_goals go_wp2
         ·go_ret
          refine ⟨?_,hb1⟩
          have hm:0≤C:=by assumption
          have hb0:=HB.out
          rw [decide_eq_true hm] at hb0
          have hbf:before u r=false:=by
           cases hbb:before u r with
           | false=>rfl
           | true=>rw [hbb] at hb0; cases hb0
          rw [HG.out,HK.out,← HR.out,HS2.out,HRO.out,hbf]; rfl
         ·have hm:C < 0:=by assumption
          have hb0:=HB.out
          rw [decide_eq_false (by omega)] at hb0
          have hbt:before u r=true:=by
           cases hbb:before u r with
           | true=>rfl
           | false=>rw [hbb] at hb0; cases hb0
          have hbf:=Lib.hid hbt
          clear hbt
          clear hb0
          go_roundw
          case rel=>exact ⟨k+1,some r,by omega,by go_num,⟨⟨_,hb1⟩,rfl⟩,by have h1:=HR.out; rw [HS2.out,HRO.out,hbf.out] at h1; exact h1,HN.out HRO.out⟩
          case measure=>simp [intOf]; omega
     ·have hd0:decide (X < 0)=true:=decide_eq_true (by omega)
      have HXT:Hid (decide (0≤X)=false):=decide_eq_false hX0
      rcases Nat.eq_zero_or_pos k with h0 | h0
      ·have hd:decide (0 < k)=false:=decide_eq_false (by omega)
       clear h0
       refine ar (by kernel_rfl) (by kernel_rfl) ?_
       repeat (any_goals (first | go_big_quiet_step ((go_at_call 116; with_reducible refine aQ HX (Nat.le_refl _) (bc x g r.k _ (hAV _)))) | (refine wpQuiet_step (fun K hK=>?_); go_simp; split <;> (refine hK _ ?_; clear hK K))))
       all_goals (refine wpQuiet_nil ?_; rintro _ ⟨q1,rfl⟩)
       all_goals have hb1:=hbV.trans (q1.below.mono hbV.size)
       all_goals go_wp2
       go_ret
       refine ⟨?_,hb1⟩
       rw [HG.out,HK.out,← HR.out,HS.out,HOK.out,HH.out,HXT.out]; rfl
      ·have h0' : (0:Int) < (k:Int):=by omega
       refine ar (by kernel_rfl) (by kernel_rfl) ?_
       repeat (any_goals (first | go_big_quiet_step ((go_at_call 116; with_reducible refine aQ HX (Nat.le_refl _) (bc x g r.k _ (hAV _)))) | (refine wpQuiet_step (fun K hK=>?_); go_simp; split <;> (refine hK _ ?_; clear hK K))))
       all_goals (refine wpQuiet_nil ?_; rintro _ ⟨q1,rfl⟩)
       all_goals have hb1:=hbV.trans (q1.below.mono hbV.size)
       all_goals go_wp2
       go_ret
       refine ⟨?_,hb1⟩
       rw [HG.out,HK.out,← HR.out,HS.out,HOK.out,HH.out,HXT.out]; rfl
    ·have hKO:eF x.t x.o=true:=by
      have h1:=HR.out
      rw [List.drop_eq_nil_of_le (by omega)] at h1; exact h1.symm
     have HOLL:=Lib.hid (fm _ _ _ hKO)
     have HKO:=Lib.hid hKO; clear hKO
     have hi:=jk x.t 0 HALL.out
     have hj:=eU cm x.t x.o 0 HOLL.out
     have HSM:Hid (lw x=decide (x.got=cc x.t+aS cm x.o+x.sold+x.missed)):=rfl
     change 0≤cc x.t∧cc x.t≤_ at hi
     change 0≤aS cm x.o∧aS cm x.o≤_ at hj
     obtain ⟨I,hI⟩ : ∃ I,cc x.t=I:=⟨_,rfl⟩
     obtain ⟨J,hJ⟩ : ∃ J,aS cm x.o=J:=⟨_,rfl⟩
     rw [hI] at hi HSM
     rw [hJ] at hj HSM
     have HI:Hid (Value.int .i64 (cc x.t)=O U I):=by rw [hI]; rfl
     have HJ:Hid (Value.int .i64 (aS cm x.o)=O U J):=by rw [hJ]; rfl
     clear hI hJ
     obtain ⟨i1,i2⟩:=hi
     obtain ⟨j1,j2⟩:=hj
     have w1:IntKind.i64.wrap (I+J)=I+J:=IntWalk.i64_in _ (by omega)
     have w2:IntKind.i64.wrap (I+J+x.sold)=I+J+x.sold:=IntWalk.i64_in _ (by omega)
     have w3:IntKind.i64.wrap (I+J+x.sold+x.missed)=I+J+x.sold+x.missed:=IntWalk.i64_in _ (by omega)
     obtain ⟨z,hz⟩ : ∃ z,decide (x.got=I+J+x.sold+x.missed)=z:=⟨_,rfl⟩
     have hzz:(x.got == I+J+x.sold+x.missed)=z:=by rw [← hz,Bool.eq_iff_iff]; simp
     have HZ:=Lib.hid hz; clear hz
     have hAQ:∀ p:an w.heap.size w,bX p.val p.val.heap.size g x:=fun p=>h.at p
     clear hro HR HP
     go_wp2
     refine bf _ (by kernel_rfl) (by kernel_rfl) ?_
     repeat (any_goals (first | go_big_quiet_step ((first | (go_at_call 119; with_reducible refine aQ HI (Nat.le_refl _) (iD x g _ (hAQ _) tl HALL.out)) | (go_at_call 120; with_reducible refine aQ HJ (Nat.le_refl _) (eG cm 121 #[] Tryz.call121 x g _ (fun o p=>p8 o p.val) (hAQ _) ol HOLL.out)))) | (refine wpQuiet_step (fun K hK=>?_); go_simp; split <;> (refine hK _ ?_; clear hK K))))
     all_goals (refine wpQuiet_nil ?_; rintro _ ⟨q1,rfl⟩)
     go_wp2
     go_ret
     refine ⟨?_,q1.below⟩
     rw [HG.out,HK.out,HKO.out,HSM.out,HZ.out]; rfl
theorem aX (x:aL) (g:Nat) (w:World) (h:bX w w.heap.size g x) :
  Calls Tryz.prog 67 #[.pointer (some ⟨g,0,none⟩)] w fun e w'=>e=.returned (.bool (al x))∧Below w.heap.size w w':=by
 cases hv:(eR x && iB x)
 ·exact kM x g w h hv
 ·exact ke x g w h hv
theorem gq {x:aL} {w:World} (h:aM w w.heap.size x) (t:TypeId):bX (w.alloc (.cells #[F x.TA x.t.length x.tc,F x.OA x.o.length x.oc,O U x.got,O U x.sold,O U x.missed] t)) (w.alloc (.cells #[F x.TA x.t.length x.tc,F x.OA x.o.length x.oc,O U x.got,O U x.sold,O U x.missed] t)).heap.size w.heap.size x :=
 bX.of (x:=x) (ah.new w t #[F x.TA x.t.length x.tc,F x.OA x.o.length x.oc,O U x.got,O U x.sold,O U x.missed]) (h.up ((Below.refl w.heap.size w).alloc (Nat.le_refl _) _) (Nat.le_refl _))
def sK (g:Bool) (v:Int):Int:=if g then v else 0
theorem ie (x:aL) (w:World) (h:aM w w.heap.size x):Calls Tryz.prog 136 #[x.val] w fun e w'=>e=.returned (.tuple #[O U (sK (al x) (cc x.t)),.bool (al x)])∧Below w.heap.size w w':=by
 have b1:=(Below.refl w.heap.size w).alloc (Nat.le_refl _) (.cells #[F x.TA x.t.length x.tc,F x.OA x.o.length x.oc,O U x.got,O U x.sold,O U x.missed] 40)
 have hA:=gq h 40
 have cG:=fun W hW=>dA x W hW
 cases hg:al x
 ·rw [hg] at cG
  clear hg
  go_enter Tryz.func136,Tryz.ntmps136
  go_wp2_with fail
  generalize w.alloc (.cells #[F x.TA x.t.length x.tc,F x.OA x.o.length x.oc,O U x.got,O U x.sold,O U x.missed] 40)=W at b1 hA ⊢
  refine (cG _ hA.r).mono ?_
  rintro e w1 ⟨rfl,hb⟩
  go_wp2
  go_ret2
  exact ⟨rfl,aq b1 hb⟩
 ·rw [hg] at cG
  have G:=bj.1 hg
  have cM:=fun W hW=>iZ x W hW G.tl G.ol G.tall G.oall
  clear hg G
  go_enter Tryz.func136,Tryz.ntmps136
  go_wp2_with fail
  generalize w.alloc (.cells #[F x.TA x.t.length x.tc,F x.OA x.o.length x.oc,O U x.got,O U x.sold,O U x.missed] 40)=W at b1 hA ⊢
  obtain ⟨p0,p1,p2,p3,p4⟩:=hA.s
  refine (aT (cG _ hA.r)).mono ?_
  rintro e w1 ⟨rfl,q1,rfl⟩
  go_wp2_with fail
  refine (aK (Nat.le_refl _) (cM _ (hA.r.at q1))).mono ?_
  rintro e w2 ⟨rfl,q2,rfl⟩
  go_wp2
  go_ret2
  exact ⟨rfl,b1.trans (q2.below.mono b1.size)⟩
theorem kg (x:aL) (w:World) (h:aM w w.heap.size x):Calls Tryz.prog 138 #[x.val] w fun e w'=>e=.returned (.tuple #[O U (sK (al x) (aS cm x.o)),.bool (al x)])∧Below w.heap.size w w':=by
 have b1:=(Below.refl w.heap.size w).alloc (Nat.le_refl _) (.cells #[F x.TA x.t.length x.tc,F x.OA x.o.length x.oc,O U x.got,O U x.sold,O U x.missed] 40)
 have hA:=gq h 40
 have cG:=fun W hW=>dA x W hW
 cases hg:al x
 ·rw [hg] at cG
  clear hg
  go_enter Tryz.func138,Tryz.ntmps138
  go_wp2_with fail
  generalize w.alloc (.cells #[F x.TA x.t.length x.tc,F x.OA x.o.length x.oc,O U x.got,O U x.sold,O U x.missed] 40)=W at b1 hA ⊢
  refine (cG _ hA.r).mono ?_
  rintro e w1 ⟨rfl,hb⟩
  go_wp2
  go_ret2
  exact ⟨rfl,aq b1 hb⟩
 ·rw [hg] at cG
  have G:=bj.1 hg
  have cM:=fun W hW=>iZ x W hW G.tl G.ol G.tall G.oall
  clear hg G
  go_enter Tryz.func138,Tryz.ntmps138
  go_wp2_with fail
  generalize w.alloc (.cells #[F x.TA x.t.length x.tc,F x.OA x.o.length x.oc,O U x.got,O U x.sold,O U x.missed] 40)=W at b1 hA ⊢
  obtain ⟨p0,p1,p2,p3,p4⟩:=hA.s
  refine (aT (cG _ hA.r)).mono ?_
  rintro e w1 ⟨rfl,q1,rfl⟩
  go_wp2_with fail
  refine (aK (Nat.le_refl _) (cM _ (hA.r.at q1))).mono ?_
  rintro e w2 ⟨rfl,q2,rfl⟩
  go_wp2
  go_ret2
  exact ⟨rfl,b1.trans (q2.below.mono b1.size)⟩
theorem kN (w:World) (vs:Array Value) (t:TypeId):∀ j u,vs.toList[j]?=some u→(w.alloc (.cells vs t)).cell? ((⟨w.heap.size,0,none⟩ : Addr).add j)=some u:=by
 intro j u hj
 have e:((⟨w.heap.size,0,none⟩ : Addr).add j)=⟨w.heap.size,j,none⟩:=by unfold Addr.add; by_cases h:j=0 <;> simp [h]
 rw [e,(ah.new w t vs).cell]; exact hj
theorem kh {w w' : World} {B:Nat} {e:TypeId} {k:Nat} {v:Value} {n:Nat} {xs:List Value} (h:w'.heap=w.heap) (ho:w.ownsRow B e k v n xs):w'.ownsRow B e k v n xs:=by
 unfold World.ownsRow at *; rw [h]; exact ho
theorem bY {P:Program} {ops:Array Oper} {rest:List Oper} {o:Oper} {a:Act} {w0 wA:World} {Q:Exit→Act→World→Prop} (hgd:o.guard=none) (s x:Operand) (t:TypeId)
  (ho:o.op=.call { callee:=.builtin .append,args:=#[s,x],argTypes:=#[t,t] })
  (e:TypeId) (z:Value) (k bytes:Nat) (ht:P.underlying t=some (.slice e)) (hinfo:(P.info? e).map (fun i=>(i.zero,i.size,i.bytes))=some (some z,k,bytes)) (hzs:z.cells.size=k) (hsz:0 < k) (hby:bytes≤1000)
  (B:Nat) (v:Value) (n:Nat) (xs:List Value) (hs:a.eval s=v) (hown:Hid (w0.ownsRow B e k v n xs))
  (vs:Array Value) (c g:Nat) (hx:a.eval x=F (some ⟨g,0,none⟩) 1 c) (hg:w0.heap.size=g) (hvs:vs.size=k) (h1:vs.all (·.oneCell')=true) (hn:n < 1000000000) (hbase:B≤w0.heap.size)
  (hheap:wA.heap=(w0.alloc (.cells vs e)).heap) (hos:wA.os=w0.os) (htape:wA.tape=w0.tape) (hout:wA.output=w0.output)
  (h:∀ v' w',Hid (w'.ownsRow B e k v' (n+1) (xs++vs.toList))→w0.grownBy w' v.ownBlock→Below B w0 w'→wpList P ops Q rest (a.put o.dst v') w'):wpList P ops Q (o :: rest) a wA:=by
 subst hg
 obtain ⟨i,hi,hz,hs',hb⟩:=info_parts hinfo
 have hown':=hown.out
 have hsize:wA.heap.size=w0.heap.size+1:=by rw [hheap]; exact Array.size_push _
 have hblock:∀ j,j < w0.heap.size→wA.heap[j]?=w0.heap[j]?:=fun j hj=>by rw [hheap]; exact Below.heap_alloc w0 _ j hj
 have h4:w0.grownBy wA v.ownBlock:=⟨hos,htape,hout,by omega,fun j hj _=>hblock j hj⟩
 refine wpList_append_own (w:=wA) hgd s x t ho B e i z k bytes ht hi hz hs' hb hzs hsz v n xs hs (kh hheap (hown'.alloc _)) ⟨w0.heap.size,0,none⟩ 1 c vs.toList hx (by simp [hvs]) ?_ (fun u hu=>(Array.all_eq_true_iff_forall_mem.1 h1) u (by simpa using hu)) (by unfold maxLen; omega) ?_ (by omega) fun v' w' h2 h3 _=>h v' w' h2 ?_ ?_
 ·intro j u hj
  have:=kN w0 vs e j u hj
  rw [← this]; exact World.cell?_of_block (by rw [hheap])
 ·have:=Nat.mul_le_mul (show n+1≤1000000000 by omega) hby
  omega
 ·exact ⟨h3.os.trans h4.os,h3.tape.trans h4.tape,h3.output.trans h4.output,Nat.le_trans h4.size h3.size,fun j hj hne=>(h3.block j (Nat.lt_of_lt_of_le hj h4.size) hne).trans (h4.block j hj hne)⟩
 ·exact ((Below.refl B w0).grown h4 hbase (fun j hj=>(hown'.lt j hj).1)).grown h3 (by omega) (fun j hj=>(hown'.lt j hj).1)
theorem av {w:World} {B:Nat} {e:TypeId} {k:Nat} {v:Value} {n:Nat} {xs:List Value} (h:w.ownsRow B e k v n xs):∃ A c,v=F A n c:=by
 obtain ⟨_,⟨rfl,rfl⟩ | ⟨g,cap,_,rfl,_⟩⟩:=h
 ·exact ⟨_,_,rfl⟩
 ·exact ⟨_,_,rfl⟩
theorem gQ {P:Program} (w:World) (base:Nat) (t ty e:TypeId) (i:TypeInfo) (size:Nat) (ht:P.underlying t=some (.slice e)) (hi:P.info? e=some i)
  (v:Value) (n:Nat) (xs:List Value) (hown:w.ownsRow base e size v n xs) (c:Nat):(Builtin.append_ #[t,t] ty #[v,F none 0 c]).run P w=.ok v w:=by
 obtain ⟨_,⟨rfl,rfl⟩ | ⟨g,cap,cur,rfl,_,_,hcap,_⟩⟩:=hown
 ·simp [Builtin.append_,run_underlying ht,sizeOf,typeInfo,hi,Builtin.lenOf,Builtin.firstCells]
 ·simp [Builtin.append_,run_underlying ht,sizeOf,typeInfo,hi,Builtin.lenOf,Builtin.firstCells,hcap,storeCells]
theorem cd (b o j:Nat):((⟨b,o,none⟩ : Addr).add j)=⟨b,o+j,none⟩:=by unfold Addr.add; by_cases h:j=0 <;> simp [h]
theorem sL {P:Program} {o:Oper} {a:Act} {w:World} {K:Act→World→Prop} {Q:Exit→Act→World→Prop} (s x:Operand) (t:TypeId)
  (ho:o.op=.call { callee:=.builtin .append,args:=#[s,x],argTypes:=#[t,t] })
  (e:TypeId) (z:Value) (k bytes:Nat) (ht:P.underlying t=some (.slice e)) (hinfo:(P.info? e).map (fun i=>(i.zero,i.size,i.bytes))=some (some z,k,bytes)) (hzs:z.cells.size=k) (hsz:0 < k) (hby:bytes≤1000)
  (B:Nat) (v:Value) (n:Nat) (xs:List Value) (hs:a.eval s=v) (hown:Hid (w.ownsRow B e k v n xs))
  (S:Nat) (A:Option Addr) (m c:Nat) (cs:List Value) (hx:a.eval x=F A m c) (hr:Hid (aY w S k A m cs)) (h1:∀ u ∈ cs,u.oneCell'=true)
  (hn:n+m≤1000000000) (hbase:B≤w.heap.size)
  (h:∀ v' w',Hid (w'.ownsRow B e k v' (n+m) (xs++cs))→w.grownBy w' v.ownBlock→Below B w w'→(v'.ownBlock=v.ownBlock ∨ v'.ownBlock=some w.heap.size)→K (a.put o.dst v') w'):o.wp P a w K Q:=by
 obtain ⟨i,hi,hz,hs',hb⟩:=info_parts hinfo
 have hbytes:(n+m) * bytes≤140737488355328:=by have:=Nat.mul_le_mul hn hby; omega
 have fin:∀ v' w',(Builtin.append_ #[t,t] o.type #[v,F A m c]).run P w=.ok v' w'→w'.ownsRow B e k v' (n+m) (xs++cs)→w.grownBy w' v.ownBlock→(v'.ownBlock=v.ownBlock ∨ v'.ownBlock=some w.heap.size)→o.wp P a w K Q:=by
  intro v' w' hrun h2 h3 h4
  unfold Oper.wp execOp
  simp only [ho,resolve,invoke,builtin,Sem.run_bind,Sem.run_pure,Result.andThen_ok,List.map_toArray,List.map_cons,List.map_nil,hs,hx,hrun]
  exact h v' w' h2 h3 ((Below.refl B w).grown h3 hbase (fun j hj=>(hown.out.lt j hj).1)) h4
 rcases Nat.eq_zero_or_pos m with h0 | h0
 ·subst h0
  have hc0:cs = []:=List.eq_nil_of_length_eq_zero (by simpa using hr.out.len)
  subst hc0
  rcases A with _ | ad
  ·exact fin v w (gQ w B t o.type e i k ht hi v n xs hown.out c) (by simpa using hown.out) (World.grownBy.refl w _) (.inl rfl)
  ·obtain ⟨v',w',hrun,h2,h3,_,h5⟩:=run_append_own_at (P:=P) w B t o.type e i z k bytes ht hi hz hs' hb hzs hsz v n xs hown.out ad 0 c [] (by simp) (by simp) (by simp) (by unfold maxLen; omega) hbytes hbase
   exact fin v' w' hrun h2 h3 h5
 ·obtain ⟨b,off,rfl,hlt,hcell⟩:=hr.out.at_ h0
  obtain ⟨v',w',hrun,h2,h3,_,h5⟩:=run_append_own_at (P:=P) w B t o.type e i z k bytes ht hi hz hs' hb hzs hsz v n xs hown.out ⟨b,off,none⟩ m c cs hr.out.len (fun j u hu=>by rw [cd]; exact hcell j u hu) h1 (by unfold maxLen; omega) hbytes hbase
  exact fin v' w' hrun h2 h3 h5
theorem gu {P:Program} {ops:Array Oper} {rest:List Oper} {o:Oper} {a:Act} {w:World} {Q:Exit→Act→World→Prop} (hgd:o.guard=none) (s x:Operand) (t:TypeId)
  (ho:o.op=.call { callee:=.builtin .append,args:=#[s,x],argTypes:=#[t,t] })
  (e:TypeId) (z:Value) (k bytes:Nat) (ht:P.underlying t=some (.slice e)) (hinfo:(P.info? e).map (fun i=>(i.zero,i.size,i.bytes))=some (some z,k,bytes)) (hzs:z.cells.size=k) (hsz:0 < k) (hby:bytes≤1000)
  (B:Nat) (v:Value) (n:Nat) (xs:List Value) (hs:a.eval s=v) (hown:Hid (w.ownsRow B e k v n xs))
  (S:Nat) (A:Option Addr) (m c:Nat) (cs:List Value) (hx:a.eval x=F A m c) (hr:Hid (aY w S k A m cs)) (h1:∀ u ∈ cs,u.oneCell'=true)
  (hn:n+m≤1000000000) (hbase:B≤w.heap.size)
  (h:∀ v' w',Hid (w'.ownsRow B e k v' (n+m) (xs++cs))→w.grownBy w' v.ownBlock→Below B w w'→(v'.ownBlock=v.ownBlock ∨ v'.ownBlock=some w.heap.size)→wpList P ops Q rest (a.put o.dst v') w'):wpList P ops Q (o :: rest) a w :=
 wpList_plain hgd fun _ hK=>sL s x t ho e z k bytes ht hinfo hzs hsz hby B v n xs hs hown S A m c cs hx hr h1 hn hbase fun v' w' h2 h3 h4 h5=>hK _ _ (h v' w' h2 h3 h4 h5)
theorem cP {w:World} {B g:Nat} {e:TypeId} {k:Nat} (h:ah w g e []) (hB:B≤g):w.ownsRow B e k (F (some ⟨g,0,none⟩) 0 0) 0 []:=h.own hB (by simp) (by unfold maxLen; omega)
end Go.Proofs.YtoeoimhemojdeaaGreatDoor
