/- Rs05: the texts SpecIn SpecAt SpecP SpecOk SpecTop SpecOut, joined into one file. -/
import Derived.Test.YtoeoimhemojdeaaGreatDoorRs01
import Derived.Test.YtoeoimhemojdeaaGreatDoorRs02
import Derived.Test.YtoeoimhemojdeaaGreatDoorRs04

set_option linter.unusedVariables false
open Go.Value renaming int → O, slice → F, string → uk
open Go.IntKind renaming i64 → U

namespace Go.Proofs.YtoeoimhemojdeaaGreatDoor
open Go.RowKit
def dh (W:World) (g:Nat) (v0 v1 v2 v3 v4:Value):World:=((((W.setCell ⟨g,0,none⟩ v0).setCell ⟨g,1,none⟩ v1).setCell ⟨g,2,none⟩ v2).setCell ⟨g,3,none⟩ v3).setCell ⟨g,4,none⟩ v4
section
variable {W:World} {g:Nat} {a b c d e v0 v1 v2 v3 v4:Value}
theorem fp (h:ah W g 40 [a,b,c,d,e]):ah (dh W g v0 v1 v2 v3 v4) g 40 [v0,v1,v2,v3,v4]:=((((h.set 0 v0).set 1 v1).set 2 v2).set 3 v3).set 4 v4
theorem jc:W.grownBy (dh W g v0 v1 v2 v3 v4) (some g):=ab (ab (ab (ab (ab (World.grownBy.refl W (some g))))))
theorem aV {B k n:Nat} {t:TypeId} {v:Value} {xs:List Value} (h:ah W g 40 [a,b,c,d,e]) (ho:W.ownsRow B t k v n xs) (hne:t ≠ 40):(dh W g v0 v1 v2 v3 v4).ownsRow B t k v n xs:=aj ho h hne jc
theorem bI {B:Nat} (h:ah W g 40 [a,b,c,d,e]) (hB:B≤g):Below B W (dh W g v0 v1 v2 v3 v4) :=
 (Below.refl B W).grown jc (Nat.le_of_lt (Nat.lt_of_le_of_lt hB h.lt)) (by rintro _ ⟨⟩; exact hB)
theorem o9 {g' : Nat} {t:TypeId} {cs:List Value} (h:ah W g' t cs) (hne:g' ≠ g):ah (dh W g v0 v1 v2 v3 v4) g' t cs:=h.kept jc (by simpa using hne)
end
theorem dC.of {w w' : World} {e:Ending} {y:Oc} {TA OA:Option Addr} {tc oc m k:Nat} (hm:y.t.length=m) (hk:y.o.length=k) (he:e=.returned (.agg #[F TA m tc,F OA k oc,O U y.got,O U y.sold,O U y.missed]))
  (h8:w'.ownsRow w.heap.size 104 2 (F TA m tc) y.t.length (y.t.flatMap ap.enc)) (h9:w'.ownsRow w.heap.size 147 3 (F OA k oc) y.o.length (y.o.flatMap ae.enc)) (hb:Below w.heap.size w w'):dC w y e w':=by
 subst hm; subst hk
 exact ⟨TA,tc,OA,oc,he,h8,h9,hb⟩
set_option maxRecDepth 100000 in
set_option maxHeartbeats 4000000 in
theorem rx (x:aL) (kd n:Int) (w:World) (h:aM w w.heap.size x) (tl:x.t.length≤1000000) (ol:x.o.length≤1000000) (hbd:∀ i (hi:i < x.t.length), -1000000000≤x.t[i].c∧x.t[i].c≤1000000000) (hn : -1000000000≤n∧n≤1000000000) (hx:0≤au x.t kd) :
  Calls Tryz.prog 173 #[x.val,O U kd,O U n] w (dC w ⟨ai x.t kd n,x.o,x.got,x.sold,x.missed⟩):=by
 obtain ⟨i,hi⟩ : ∃ i:Nat,au x.t kd=i:=⟨(au x.t kd).toNat,by omega⟩
 have hil:i < x.t.length:=by have:=kJ hx; omega
 have hin:=gw (n:=n) hi hil
 obtain ⟨n1,n2⟩:=hn
 obtain ⟨u1,u2⟩:=hbd i hil
 clear hbd hx
 obtain ⟨tr,htr⟩ : ∃ tr,tr=x.t[i]:=⟨_,rfl⟩
 rw [← htr] at hin u1 u2
 have HI:=Lib.hid hin; clear hin
 have L1:=(ah.new w 40 #[F x.TA x.t.length x.tc,F x.OA x.o.length x.oc,O U x.got,O U x.sold,O U x.missed]).alloc (.cells #[F none 0 0,F none 0 0,O U 0,O U 0,O U 0] 40)
 have L2:=ah.new1 w (.cells #[F x.TA x.t.length x.tc,F x.OA x.o.length x.oc,O U x.got,O U x.sold,O U x.missed] 40) 40 #[F none 0 0,F none 0 0,O U 0,O U 0,O U 0]
 have b1:=(Below.refl w.heap.size w).alloc (Nat.le_refl _) (.cells #[F x.TA x.t.length x.tc,F x.OA x.o.length x.oc,O U x.got,O U x.sold,O U x.missed] 40)
 have b2:=b1.alloc b1.size (.cells #[F none 0 0,F none 0 0,O U 0,O U 0,O U 0] 40)
 clear b1
 go_enter Tryz.func173,Tryz.ntmps173
 go_wp2_with fail
 generalize ((w.alloc (.cells #[F x.TA x.t.length x.tc,F x.OA x.o.length x.oc,O U x.got,O U x.sold,O U x.missed] 40)).alloc (.cells #[F none 0 0,F none 0 0,O U 0,O U 0,O U 0] 40))=W at L1 L2 b2 ⊢
 have hR:=h.up b2 (Nat.le_refl _)
 refine (iG x W hR tl ol).mono ?_
 rintro e W2 ⟨TA,tc,OA,oc,he,hT,hO,hb2⟩
 have he:e=.returned (.agg #[F TA x.t.length tc,F OA x.o.length oc,O U x.got,O U x.sold,O U x.missed]):=he
 subst he
 simp only [aL.c] at hT hO
 have L1a:=(L1.below hb2 L1.lt).alloc (.cells #[F TA x.t.length tc,F OA x.o.length oc,O U x.got,O U x.sold,O U x.missed] 40)
 have L2a:=(L2.below hb2 L2.lt).alloc (.cells #[F TA x.t.length tc,F OA x.o.length oc,O U x.got,O U x.sold,O U x.missed] 40)
 have P1:=ah.new W2 40 #[F TA x.t.length tc,F OA x.o.length oc,O U x.got,O U x.sold,O U x.missed]
 have hal:=(Below.refl W2.heap.size W2).alloc (Nat.le_refl _) (.cells #[F TA x.t.length tc,F OA x.o.length oc,O U x.got,O U x.sold,O U x.missed] 40)
 have hT3:=af (ac hT hal) b2.size
 have hO3:=af (ac hO hal) b2.size
 have b3:=b2.trans ((aq hb2 hal).mono b2.size)
 have hR3:=(hR.then hb2).then hal
 have hg7:w.heap.size≤W2.heap.size:=Nat.le_trans b2.size hb2.size
 have hg8:w.heap.size+1 < W2.heap.size:=Nat.lt_of_lt_of_le L2.lt hb2.size
 obtain ⟨c0,c1,c2,c3,c4⟩:=cells5 L1a
 clear L1 L2 b2 hb2 hT hO hal hR h
 obtain ⟨W3,hW3⟩ : ∃ W3,W2.alloc (.cells #[F TA x.t.length tc,F OA x.o.length oc,O U x.got,O U x.sold,O U x.missed] 40)=W3:=⟨_,rfl⟩
 rw [hW3] at L1a L2a P1 hT3 hO3 b3 hR3 c0 c1 c2 c3 c4
 go_wp2_with (rw [hW3])
 clear hW3
 refine (bx x kd W3 hR3).mono ?_
 rintro e W4 ⟨rfl,hb4⟩
 rw [hi]
 obtain ⟨bA,off,hA,hbA,hcell⟩:=fk.el (hR3.then hb4).ts (by omega)
 obtain ⟨e0,e1⟩:=hcell i hil
 rw [← htr] at e0 e1
 have HTR:=Lib.hid htr; clear htr hcell e0
 have L1b:=L1a.below hb4 L1a.lt
 have L2b:=L2a.below hb4 L2a.lt
 have P1b:=P1.below hb4 P1.lt
 have hT4:=ac hT3 hb4
 have hO4:=ac hO3 hb4
 have b4:=b3.trans (hb4.mono b3.size)
 clear L1a L2a P1 hT3 hO3 b3 hR3 hb4 c0 c1 c2 c3 c4 hi
 obtain ⟨gT,cT,restT,hvT,hgT,LT,hcT⟩:=bH hT4 (by omega)
 injection hvT with hTA _ htc
 subst hTA; subst htc
 have hOff:az W4 w.heap.size W2.heap.size (F (some ⟨gT,0,none⟩) x.t.length tc) (F OA x.o.length oc) ⟨x.t,x.o,x.got,x.sold,x.missed⟩:=⟨P1b,hg7,hT4,hO4⟩
 simp only [hA] at L1b
 have hne:=LT.apart L2b (by decide)
 have hge:(0:Int)≤(i:Int):=by omega
 have hgi:decide ((i:Int) ≥ 0)=true:=decide_eq_true hge
 clear LT hT4 hO4 P1b hA
 go_wp2
 refine am (Sw 13 (fun W9=>Below W4.heap.size W4 W9) (fun W9=>∃ W8,Below W4.heap.size W4 W8∧W9=W8.setCell ⟨gT,i * 2+1,none⟩ (O U (tr.c+n)))) (fun i w1 w2=>i ∉ [13]→Below w1.heap.size w1 w2) (by kernel_rfl) (by kernel_rfl) (by kernel_rfl) (Sw.start (Below.refl _ _).drew) ?_
 simp only [aw,Act.put,List.setIfInBounds_toArray,List.set_cons_zero,List.set_cons_succ,Nat.zero_add,Nat.reduceAdd]
 apply aa
 case h1 =>
  intro vs L9 w9 hG9 hC9 hB K9 hK9
  replace hC9:=sb hC9 hG9
  simp only [Act.put,sA,s0,s1] at hK9
  go_simp
  exact hK9 _ _ rfl (sy hG9 hC9) bR
 apply aa
 case h1 =>
  intro vs L9 w9 hG9 hC9 hB K9 hK9
  replace hC9:=sb hC9 hG9
  have d0:=fe hB 0
  simp only [d0] at hK9 ⊢
  have q0:w9.cell? ⟨W2.heap.size,0,none⟩=some (F (some ⟨gT,0,none⟩) x.t.length tc):=(hOff.lies.below hC9 hOff.lies.lt).cell 0
  simp only [Act.put,sA,s0,s1] at hK9
  go_simp
  exact hK9 _ _ rfl (sy hG9 hC9) bR
 apply aa
 case h1 =>
  intro vs L9 w9 hG9 hC9 hB K9 hK9
  replace hC9:=sb hC9 hG9
  simp only [Act.put,sA,s0,s1] at hK9
  go_simp
  exact hK9 _ _ rfl (sy hG9 hC9) bR
 apply aa
 case h1 =>
  intro vs L9 w9 hG9 hC9 hB K9 hK9
  replace hC9:=sb hC9 hG9
  simp only [Act.put,sA,s0,s1] at hK9
  go_simp
  exact hK9 _ _ rfl (sy hG9 hC9) bR
 apply aa
 case h1 =>
  intro vs L9 w9 hG9 hC9 hB K9 hK9
  replace hC9:=sb hC9 hG9
  have d3:=fe hB 3
  simp only [d3] at hK9 ⊢
  have q0:w9.cell? ⟨w.heap.size,0,none⟩=some (F (some ⟨bA,off,none⟩) x.t.length x.tc):=(L1b.below hC9 L1b.lt).cell 0
  simp only [Act.put,sA,s0,s1] at hK9
  go_simp
  exact hK9 _ _ rfl (sy hG9 hC9) bR
 apply aa
 case h1 =>
  intro vs L9 w9 hG9 hC9 hB K9 hK9
  replace hC9:=sb hC9 hG9
  simp only [Act.put,sA,s0,s1] at hK9
  go_simp
  exact hK9 _ _ rfl (sy hG9 hC9) bR
 apply aa
 case h1 =>
  intro vs L9 w9 hG9 hC9 hB K9 hK9
  replace hC9:=sb hC9 hG9
  have d4:=fe hB 4
  have d5:=fe hB 5
  simp only [d4,d5] at hK9 ⊢
  simp only [Act.put,sA,s0,s1] at hK9
  go_simp
  exact hK9 _ _ rfl (sy hG9 hC9) bR
 apply aa
 case h1 =>
  intro vs L9 w9 hG9 hC9 hB K9 hK9
  replace hC9:=sb hC9 hG9
  have d6:=fe hB 6
  simp only [d6] at hK9 ⊢
  simp only [Act.put,sA,s0,s1] at hK9
  go_simp
  exact hK9 _ _ rfl (sy hG9 hC9) bR
 apply aa
 case h1 =>
  intro vs L9 w9 hG9 hC9 hB K9 hK9
  replace hC9:=sb hC9 hG9
  have d7:=fe hB 7
  simp only [d7] at hK9 ⊢
  have q0:w9.cell? ⟨bA,off+i * 2+1,none⟩=some (O U tr.c):=e1 ⟨w9,hC9⟩
  simp only [Act.put,sA,s0,s1] at hK9
  go_simp
  exact hK9 _ _ rfl (sy hG9 hC9) bR
 apply aa
 case h1 =>
  intro vs L9 w9 hG9 hC9 hB K9 hK9
  replace hC9:=sb hC9 hG9
  simp only [Act.put,sA,s0,s1] at hK9
  go_simp
  exact hK9 _ _ rfl (sy hG9 hC9) bR
 apply aa
 case h1 =>
  intro vs L9 w9 hG9 hC9 hB K9 hK9
  replace hC9:=sb hC9 hG9
  have d8:=fe hB 8
  have d9:=fe hB 9
  simp only [d8,d9] at hK9 ⊢
  have i3:IntKind.i64.wrap (tr.c+n)=tr.c+n:=IntWalk.i64_in _ (by omega)
  simp only [Act.put,sA,s0,s1] at hK9
  go_simp
  exact hK9 _ _ rfl (sy hG9 hC9) bR
 apply aa
 case h1 =>
  intro vs L9 w9 hG9 hC9 hB K9 hK9
  replace hC9:=sb hC9 hG9
  have d1:=fe hB 1
  have d2:=fe hB 2
  simp only [d1,d2] at hK9 ⊢
  simp only [Act.put,sA,s0,s1] at hK9
  go_simp
  exact hK9 _ _ rfl (sy hG9 hC9) bR
 apply aa
 case h1 =>
  intro vs L9 w9 hG9 hC9 hB K9 hK9
  replace hC9:=sb hC9 hG9
  have d11:=fe hB 11
  simp only [d11] at hK9 ⊢
  simp only [Act.put,sA,s0,s1] at hK9
  go_simp
  exact hK9 _ _ rfl (sy hG9 hC9) bR
 refine aa (undef) (fun vs L9 w9 hG9 hC9 hB K9 hK9=>?ha13) ?ra13
 case ha13 =>
  replace hC9:=hC9.here hG9
  have d10:=fe hB 10
  have d12:=fe hB 12
  simp only [d10,d12] at hK9 ⊢
  obtain ⟨_,_,q0,f0⟩:=az.setT' (y:=⟨x.t,x.o,x.got,x.sold,x.missed⟩) (hOff.then hC9) hil tr HTR.out.symm (tr.c+n)
  go_simp
  exact hK9 _ _ rfl (Sw.turn ⟨w9,hC9,rfl⟩) (fun hq=>(hq (by decide)).elim)
 refine ax fun vs L9 w9 hL9 hC9 hB=>?_
 replace hC9:=hC9.done hL9 (by decide)
 obtain ⟨W8,hb8,rfl⟩:=hC9
 clear hB hL9
 obtain ⟨hO10,hb10,_,_⟩:=az.setT' (y:=⟨x.t,x.o,x.got,x.sold,x.missed⟩) (hOff.then hb8) hil tr HTR.out.symm (tr.c+n)
 have b10:=(b4.trans (hb8.mono b4.size)).trans hb10
 have L2c:=(L2b.below hb8 L2b.lt).other (p:=⟨gT,i * 2+1,none⟩) (Ne.symm hne) (O U (tr.c+n))
 generalize W8.setCell ⟨gT,i * 2+1,none⟩ (O U (tr.c+n))=W9 at hO10 b10 L2c ⊢
 have P9:=hO10.lies
 have hrow:=aV (v0:=F (some ⟨gT,0,none⟩) x.t.length tc) (v1:=F OA x.o.length oc) (v2:=O U x.got) (v3:=O U x.sold) (v4:=O U x.missed) L2c hO10.t cy
 have hrow2:=aV (v0:=F (some ⟨gT,0,none⟩) x.t.length tc) (v1:=F OA x.o.length oc) (v2:=O U x.got) (v3:=O U x.sold) (v4:=O U x.missed) L2c hO10.o cR
 have bz:=b10.trans (bI (v0:=F (some ⟨gT,0,none⟩) x.t.length tc) (v1:=F OA x.o.length oc) (v2:=O U x.got) (v3:=O U x.sold) (v4:=O U x.missed) L2c (Nat.le_succ _))
 have R8:=Lib.hid hrow
 have R9:=Lib.hid hrow2
 obtain ⟨c0,c1,c2,c3,c4⟩:=cells5 P9
 obtain ⟨z0,z1,z2,z3,z4⟩:=cells5 L2c
 obtain ⟨f0,f1,f2,f3,f4⟩:=frz5 L2c
 clear hrow hrow2 hO10 hb10 P9 L2c
 go_wp2
 refine bodyPost_ret (v:=.agg #[F (some ⟨gT,0,none⟩) x.t.length tc,F OA x.o.length oc,O U x.got,O U x.sold,O U x.missed]) (by simp [results,Tryz.results173,go_sem, *]) rfl ?_
 rw [HI.out]
 exact dC.of (List.length_set ..) rfl rfl R8.out R9.out bz
theorem ry {l:List ap} {kd:Int} {k:Nat} (h:k < l.length):cK (l.drop k) kd=if l[k].k < kd then cK (l.drop (k+1)) kd+1 else 0:=by
 rw [List.drop_eq_getElem_cons h,jm]
theorem na {ts:List ap} {kd n:Int} (h : ¬ 0≤au ts kd):ai ts kd n=(ts.take (cK ts kd)++[⟨kd,n⟩])++ts.drop (cK ts kd):=by
 unfold ai; rw [if_neg h,List.append_assoc]; rfl
theorem fI:(Tryz.prog.info? 104).map (·.size)=some 2:=by kernel_rfl
set_option maxRecDepth 100000 in
set_option maxHeartbeats 4000000 in
theorem rz (x:aL) (kd n:Int) (w:World) (h:aM w w.heap.size x) (tl:x.t.length≤1000000) (ol:x.o.length≤1000000) (hbd:∀ i (hi:i < x.t.length), -1000000000≤x.t[i].c∧x.t[i].c≤1000000000) (hn : -1000000000≤n∧n≤1000000000) (hx : ¬ 0≤au x.t kd) (hcap:x.t.length≤x.tc) :
  Calls Tryz.prog 173 #[x.val,O U kd,O U n] w (dC w ⟨ai x.t kd n,x.o,x.got,x.sold,x.missed⟩):=by
 obtain ⟨n1,n2⟩:=hn
 clear hbd
 have HIN:=Lib.hid (na (n:=n) hx)
 have L1:=(ah.new w 40 #[F x.TA x.t.length x.tc,F x.OA x.o.length x.oc,O U x.got,O U x.sold,O U x.missed]).alloc (.cells #[F none 0 0,F none 0 0,O U 0,O U 0,O U 0] 40)
 have L2:=ah.new1 w (.cells #[F x.TA x.t.length x.tc,F x.OA x.o.length x.oc,O U x.got,O U x.sold,O U x.missed] 40) 40 #[F none 0 0,F none 0 0,O U 0,O U 0,O U 0]
 have b1:=(Below.refl w.heap.size w).alloc (Nat.le_refl _) (.cells #[F x.TA x.t.length x.tc,F x.OA x.o.length x.oc,O U x.got,O U x.sold,O U x.missed] 40)
 have b2:=b1.alloc b1.size (.cells #[F none 0 0,F none 0 0,O U 0,O U 0,O U 0] 40)
 clear b1
 go_enter Tryz.func173,Tryz.ntmps173
 go_wp2_with fail
 generalize ((w.alloc (.cells #[F x.TA x.t.length x.tc,F x.OA x.o.length x.oc,O U x.got,O U x.sold,O U x.missed] 40)).alloc (.cells #[F none 0 0,F none 0 0,O U 0,O U 0,O U 0] 40))=W at L1 L2 b2 ⊢
 have hR:=h.up b2 (Nat.le_refl _)
 refine (iG x W hR tl ol).mono ?_
 rintro e W2 ⟨TA,tc,OA,oc,he,hT,hO,hb2⟩
 have he:e=.returned (.agg #[F TA x.t.length tc,F OA x.o.length oc,O U x.got,O U x.sold,O U x.missed]):=he
 subst he
 simp only [aL.c] at hT hO
 have L1a:=(L1.below hb2 L1.lt).alloc (.cells #[F TA x.t.length tc,F OA x.o.length oc,O U x.got,O U x.sold,O U x.missed] 40)
 have L2a:=(L2.below hb2 L2.lt).alloc (.cells #[F TA x.t.length tc,F OA x.o.length oc,O U x.got,O U x.sold,O U x.missed] 40)
 have P1:=ah.new W2 40 #[F TA x.t.length tc,F OA x.o.length oc,O U x.got,O U x.sold,O U x.missed]
 have hal:=(Below.refl W2.heap.size W2).alloc (Nat.le_refl _) (.cells #[F TA x.t.length tc,F OA x.o.length oc,O U x.got,O U x.sold,O U x.missed] 40)
 have hT3:=af (ac hT hal) b2.size
 have hO3:=af (ac hO hal) b2.size
 have b3:=b2.trans ((aq hb2 hal).mono b2.size)
 have hR3:=(hR.then hb2).then hal
 have hg7:w.heap.size≤W2.heap.size:=Nat.le_trans b2.size hb2.size
 have hg8:w.heap.size+1 < W2.heap.size:=Nat.lt_of_lt_of_le L2.lt hb2.size
 obtain ⟨c0,c1,c2,c3,c4⟩:=cells5 L1a
 clear L1 L2 b2 hb2 hT hO hal hR h
 obtain ⟨W3,hW3⟩ : ∃ W3,W2.alloc (.cells #[F TA x.t.length tc,F OA x.o.length oc,O U x.got,O U x.sold,O U x.missed] 40)=W3:=⟨_,rfl⟩
 rw [hW3] at L1a L2a P1 hT3 hO3 b3 hR3 c0 c1 c2 c3 c4
 go_wp2_with (rw [hW3])
 clear hW3
 refine (bx x kd W3 hR3).mono ?_
 rintro e W4 ⟨rfl,hb4⟩
 have L1b:=L1a.below hb4 L1a.lt
 have L2b:=L2a.below hb4 L2a.lt
 have P1b:=P1.below hb4 P1.lt
 have hO4:=ac hO3 hb4
 have b4:=b3.trans (hb4.mono b3.size)
 have hR4:=hR3.then hb4
 have hng:decide (au x.t kd ≥ 0)=false:=decide_eq_false (by omega)
 have hix:au x.t kd < 0:=by omega
 clear L1a L2a P1 hT3 hO3 b3 hR3 hb4 c0 c1 c2 c3 c4 hx
 have c0:=L1b.cell 0
 simp only [List.getElem?_cons_zero] at c0
 have hl:=hR4.ts.big
 go_wp2
 go_loopw [9] (fun v wr=>∃ k:Nat,k≤x.t.length∧v=O U (k:Int)∧wr=W4∧Hid (k+cK (x.t.drop k) kd=cK x.t kd)) (fun v _=>x.t.length - (intOf v).toNat)
 case atStart=>exact ⟨0,Nat.zero_le _,rfl,rfl,by unfold Hid; simp⟩
 case round =>
  obtain ⟨k,hk,rfl,hwr,HP⟩:=hrel
  subst wr
  have hk9:k≤9223372036854775807:=Nat.le_trans hk hl
  by_cases hlt:k < x.t.length
  ·obtain ⟨bA,off,hA,hbA,hcell⟩:=fk.el hR4.ts (by omega)
   obtain ⟨e0,_⟩:=hcell k hlt
   have e0:W4.cell? ⟨bA,off+k * 2,none⟩=some (O U x.t[k].k):=e0 (an.start _ _)
   have HS:=Lib.hid (ry (kd:=kd) hlt)
   obtain ⟨tk,htk⟩ : ∃ tk,tk=x.t[k].k:=⟨_,rfl⟩
   rw [← htk] at e0 HS
   clear htk hcell
   have hklt:(k:Int) < (x.t.length:Int):=by omega
   by_cases hm:tk < kd
   ·have HN:Hid (k+1+cK (x.t.drop (k+1)) kd=cK x.t kd):=by unfold Hid; rw [← HP.out,HS.out,if_pos hm]; omega
    simp only [hA] at c0
    have hA':=Lib.hid hA
    clear hA
    go_wp2
    go_roundw
    case rel=>exact ⟨k+1,by omega,by go_num,trivial,HN⟩
    case measure=>simp [intOf]; omega
   ·have HK:Hid (cK x.t kd=k):=by unfold Hid; rw [← HP.out,HS.out,if_neg hm]; rfl
    clear HP HS
    have hA':=Lib.hid hA
    have c0':=Lib.hid c0
    simp only [hA] at c0
    clear hA
    go_wp2
    clear c0
    have c0:=c0'.out
    clear c0' hm e0
    refine am (Sw 17 (fun W9=>Below W4.heap.size W4 W9) (fun W9=>∃ W8 A c,Below W4.heap.size W4 W8∧W8.ownsRow W4.heap.size 104 2 (F A (k+1+(x.t.length - k)) c) (k+1+(x.t.length - k)) (((x.t.flatMap ap.enc).take (k * 2)++[O U kd,O U n])++(x.t.flatMap ap.enc).drop (k * 2))∧W9=W8.setCell ⟨W2.heap.size,0,none⟩ (F A (k+1+(x.t.length - k)) c))) (fun i w1 w2=>i ∉ [10,15,17]→Below w1.heap.size w1 w2) (by kernel_rfl) (by kernel_rfl) (by kernel_rfl) (Sw.start (Below.refl _ _).drew) ?_
    simp only [aw,Act.put,List.setIfInBounds_toArray,List.set_cons_zero,List.set_cons_succ,Nat.zero_add,Nat.reduceAdd]
    refine ak [10,15,17] (fun v w9=>∃ g,v=F (some ⟨g,0,none⟩) 0 0∧W4.heap.size≤g∧ah w9 g 104 []) ?sb0 (fun vs L9 w9 hG9 hC9 hB K9 hK9=>?hb0) ?rb0
    case sb0 =>
     intro i9 hi9 hb9 ha9 v w1 w2 hv hT9
     have hb:=hT9 (fun hm=>by
      simp only [List.mem_cons,List.not_mem_nil,or_false] at hm hb9
      rcases hm with rfl | rfl | rfl
      ·exact hb9 (by simp)
      ·exact hb9 (by simp)
      ·exact hb9 (by simp))
     obtain ⟨g,e,hg,hl⟩:=hv
     exact ⟨g,e,hg,hl.below hb hl.lt⟩
    case hb0 =>
     replace hC9:=sb hC9 hG9
     simp only [Act.put,sA,s0,s1] at hK9
     go_simp
     exact hK9 _ _ _ rfl ⟨_,rfl,hC9.size,ah.new w9 104 #[]⟩ (Sw.stay hG9 (by kernel_rfl) (by decide) (hC9.alloc hC9.size _)) (fun _=>(Below.refl _ _).alloc (Nat.le_refl _) _)
    apply aa
    case h1 =>
     intro vs L9 w9 hG9 hC9 hB K9 hK9
     replace hC9:=sb hC9 hG9
     simp only [Act.put,sA,s0,s1] at hK9
     go_simp
     exact hK9 _ _ rfl (sy hG9 hC9) bR
    apply aa
    case h1 =>
     intro vs L9 w9 hG9 hC9 hB K9 hK9
     replace hC9:=sb hC9 hG9
     have d1:=fe hB 1
     simp only [d1] at hK9 ⊢
     have q0:w9.cell? ⟨w.heap.size,0,none⟩=some (F x.TA x.t.length x.tc):=(L1b.below hC9 L1b.lt).cell 0
     simp only [Act.put,sA,s0,s1] at hK9
     go_simp
     exact hK9 _ _ rfl (sy hG9 hC9) bR
    apply aa
    case h1 =>
     intro vs L9 w9 hG9 hC9 hB K9 hK9
     replace hC9:=sb hC9 hG9
     simp only [Act.put,sA,s0,s1] at hK9
     go_simp
     exact hK9 _ _ rfl (sy hG9 hC9) bR
    apply aa
    case h1 =>
     intro vs L9 w9 hG9 hC9 hB K9 hK9
     replace hC9:=sb hC9 hG9
     have d2:=fe hB 2
     have d3:=fe hB 3
     simp only [d2,d3] at hK9 ⊢
     simp only [Act.put,sA,s0,s1] at hK9
     refine ko rfl 37 104 (.tmp 50) (.tmp 51) rfl Tryz.underlying37 2 fI x.TA x.t.length x.tc k (by rfl) (by rfl) hk hcap ?_
     exact hK9 _ _ rfl (sy hG9 hC9) bR
    refine ak [10,15,17] (fun v w9=>∃ A c,v=F A (k) c∧w9.ownsRow W4.heap.size 104 2 (F A (k) c) (k) ((x.t.flatMap ap.enc).take (k * 2))) ?sb5 (fun vs L9 w9 hG9 hC9 hB K9 hK9=>?hb5) ?rb5
    case sb5 =>
     intro i9 hi9 hb9 ha9 v w1 w2 hv hT9
     have hb:=hT9 (fun hm=>by
      simp only [List.mem_cons,List.not_mem_nil,or_false] at hm hb9
      rcases hm with rfl | rfl | rfl
      ·exact hb9 (by simp)
      ·exact hb9 (by simp)
      ·exact hb9 (by simp))
     obtain ⟨A,c,e,ho⟩:=hv
     exact ⟨A,c,e,ac ho hb⟩
    case hb5 =>
     replace hC9:=sb hC9 hG9
     have d4:=fe hB 4
     simp only [d4] at hK9 ⊢
     simp only [Act.put,sA,s0,s1] at hK9
     obtain ⟨g,e0,hg,hl⟩:=fs hB 0
     simp only [e0] at hK9 ⊢
     refine km rfl (.tmp 48) (.tmp 52) 37 rfl 104 _ 2 16 Tryz.underlying37 dw rfl (by omega) (by omega) W4.heap.size g (by rfl) hl hg W4.heap.size x.TA k x.tc _ (by rfl) (aY.take (aY.below hR4.ts hC9) k hk) (fun u hu=>dN u (List.mem_of_mem_take hu)) (by omega) ?_
     intro v' w' ho hb
     obtain ⟨A',c',rfl⟩:=av ho
     exact hK9 _ _ _ rfl ⟨A',c',rfl,ho⟩ (Sw.stay hG9 (by kernel_rfl) (by decide) (hC9.trans (hb.mono hC9.size))) (fun _=>hb)
    apply aa
    case h1 =>
     intro vs L9 w9 hG9 hC9 hB K9 hK9
     replace hC9:=sb hC9 hG9
     simp only [Act.put,sA,s0,s1] at hK9
     go_simp
     exact hK9 _ _ rfl (sy hG9 hC9) bR
    apply aa
    case h1 =>
     intro vs L9 w9 hG9 hC9 hB K9 hK9
     replace hC9:=sb hC9 hG9
     simp only [Act.put,sA,s0,s1] at hK9
     go_simp
     exact hK9 _ _ rfl (sy hG9 hC9) bR
    apply aa
    case h1 =>
     intro vs L9 w9 hG9 hC9 hB K9 hK9
     replace hC9:=sb hC9 hG9
     have d6:=fe hB 6
     have d7:=fe hB 7
     simp only [d6,d7] at hK9 ⊢
     simp only [Act.put,sA,s0,s1] at hK9
     go_simp
     exact hK9 _ _ rfl (sy hG9 hC9) bR
    refine ak [10,15,17] (fun v w9=>∃ g c,v=F (some ⟨g,0,none⟩) 1 c∧ah w9 g 104 [O U kd,O U n]) ?sb9 (fun vs L9 w9 hG9 hC9 hB K9 hK9=>?hb9) ?rb9
    case sb9 =>
     intro i9 hi9 hb9 ha9 v w1 w2 hv hT9
     have hb:=hT9 (fun hm=>by
      simp only [List.mem_cons,List.not_mem_nil,or_false] at hm hb9
      rcases hm with rfl | rfl | rfl
      ·exact hb9 (by simp)
      ·exact hb9 (by simp)
      ·exact hb9 (by simp))
     obtain ⟨g,c,e,hl⟩:=hv
     exact ⟨g,c,e,hl.below hb hl.lt⟩
    case hb9 =>
     replace hC9:=sb hC9 hG9
     have d8:=fe hB 8
     simp only [d8] at hK9 ⊢
     simp only [Act.put,sA,s0,s1] at hK9
     go_simp
     exact hK9 _ _ _ rfl ⟨_,_,rfl,ah.new w9 104 #[O U kd,O U n]⟩ (Sw.stay hG9 (by kernel_rfl) (by decide) (hC9.alloc hC9.size _)) (fun _=>(Below.refl _ _).alloc (Nat.le_refl _) _)
    refine ak [15,17] (fun v w9=>∃ A c,v=F A (k+1) c∧w9.ownsRow W4.heap.size 104 2 (F A (k+1) c) (k+1) ((x.t.flatMap ap.enc).take (k * 2)++[O U kd,O U n])) ?sb10 (fun vs L9 w9 hG9 hC9 hB K9 hK9=>?hb10) ?rb10
    case sb10 =>
     intro i9 hi9 hb9 ha9 v w1 w2 hv hT9
     have hb:=hT9 (fun hm=>by
      simp only [List.mem_cons,List.not_mem_nil,or_false] at hm hb9
      rcases hm with rfl | rfl | rfl
      ·exact hi9 rfl
      ·exact hb9 (by simp)
      ·exact hb9 (by simp))
     obtain ⟨A,c,e,ho⟩:=hv
     exact ⟨A,c,e,ac ho hb⟩
    case hb10 =>
     replace hC9:=sb hC9 hG9
     simp only [Act.put,sA,s0,s1] at hK9
     obtain ⟨A,c,e5,ho⟩:=fs hB 5
     obtain ⟨g,c9,e9,hl⟩:=fs hB 9
     simp only [e5,e9] at hK9 ⊢
     refine kp rfl (.tmp 53) (.tmp 57) 37 rfl 104 _ 2 16 Tryz.underlying37 dw rfl (by omega) (by omega) W4.heap.size _ k _ (by rfl) ho w9.heap.size (some ⟨g,0,none⟩) 1 c9 [O U kd,O U n] (by rfl) (hl.reads rfl (by omega)) (by simp [Value.oneCell']) (by omega) hC9.size ?_
     intro A' c' w' ho' _ hb
     exact hK9 _ _ _ rfl ⟨A',c',rfl,ho'⟩ (Sw.stay hG9 (by kernel_rfl) (by decide) (hC9.trans hb)) (fun hq=>(hq (by decide)).elim)
    apply aa
    case h1 =>
     intro vs L9 w9 hG9 hC9 hB K9 hK9
     replace hC9:=sb hC9 hG9
     simp only [Act.put,sA,s0,s1] at hK9
     go_simp
     exact hK9 _ _ rfl (sy hG9 hC9) bR
    apply aa
    case h1 =>
     intro vs L9 w9 hG9 hC9 hB K9 hK9
     replace hC9:=sb hC9 hG9
     have d11:=fe hB 11
     simp only [d11] at hK9 ⊢
     have q0:w9.cell? ⟨w.heap.size,0,none⟩=some (F x.TA x.t.length x.tc):=(L1b.below hC9 L1b.lt).cell 0
     simp only [Act.put,sA,s0,s1] at hK9
     go_simp
     exact hK9 _ _ rfl (sy hG9 hC9) bR
    apply aa
    case h1 =>
     intro vs L9 w9 hG9 hC9 hB K9 hK9
     replace hC9:=sb hC9 hG9
     simp only [Act.put,sA,s0,s1] at hK9
     go_simp
     exact hK9 _ _ rfl (sy hG9 hC9) bR
    refine ak [] (fun v w9=>∃ A,v=F A (x.t.length - k) (x.tc - k)∧∀ W9,Below W4.heap.size W4 W9→aY W9 W4.heap.size 2 A (x.t.length - k) ((x.t.flatMap ap.enc).drop (k * 2))) ?sb14 (fun vs L9 w9 hG9 hC9 hB K9 hK9=>?hb14) ?rb14
    case sb14 =>
     intro i9 hi9 hb9 ha9 v w1 w2 hv hT9
     exact hv
    case hb14 =>
     replace hC9:=sb hC9 hG9
     have d12:=fe hB 12
     have d13:=fe hB 13
     simp only [d12,d13] at hK9 ⊢
     simp only [Act.put,sA,s0,s1] at hK9
     refine ja rfl 37 104 (.tmp 60) (.tmp 61) rfl Tryz.underlying37 2 fI x.TA x.t.length x.tc k (by rfl) (by rfl) hk hcap ?_
     intro A' hA9
     exact hK9 _ _ _ rfl ⟨A',rfl,fun W9 hW=>hA9 _ _ _ (aY.below hR4.ts hW)⟩ (sy hG9 hC9) bR
    refine ak [17] (fun v w9=>∃ A c,v=F A (k+1+(x.t.length - k)) c∧w9.ownsRow W4.heap.size 104 2 (F A (k+1+(x.t.length - k)) c) (k+1+(x.t.length - k)) (((x.t.flatMap ap.enc).take (k * 2)++[O U kd,O U n])++(x.t.flatMap ap.enc).drop (k * 2))) ?sb15 (fun vs L9 w9 hG9 hC9 hB K9 hK9=>?hb15) ?rb15
    case sb15 =>
     intro i9 hi9 hb9 ha9 v w1 w2 hv hT9
     have hb:=hT9 (fun hm=>by
      simp only [List.mem_cons,List.not_mem_nil,or_false] at hm hb9
      rcases hm with rfl | rfl | rfl
      ·exact absurd (ha9.symm.trans (show bG .any _ _ _ _=true by kernel_rfl)) (by decide)
      ·exact hi9 rfl
      ·exact hb9 (by simp))
     obtain ⟨A,c,e,ho⟩:=hv
     exact ⟨A,c,e,ac ho hb⟩
    case hb15 =>
     replace hC9:=sb hC9 hG9
     simp only [Act.put,sA,s0,s1] at hK9
     obtain ⟨A,c,e10,ho⟩:=fs hB 10
     obtain ⟨A14,e14,hr⟩:=fs hB 14
     simp only [e10,e14] at hK9 ⊢
     refine kp rfl (.tmp 58) (.tmp 62) 37 rfl 104 _ 2 16 Tryz.underlying37 dw rfl (by omega) (by omega) W4.heap.size _ (k+1) _ (by rfl) ho W4.heap.size A14 (x.t.length - k) (x.tc - k) _ (by rfl) (hr w9 hC9) (fun u hu=>dN u (List.mem_of_mem_drop hu)) (by omega) hC9.size ?_
     intro A' c' w' ho' _ hb
     exact hK9 _ _ _ rfl ⟨A',c',rfl,ho'⟩ (Sw.stay hG9 (by kernel_rfl) (by decide) (hC9.trans hb)) (fun hq=>(hq (by decide)).elim)
    apply aa
    case h1 =>
     intro vs L9 w9 hG9 hC9 hB K9 hK9
     replace hC9:=sb hC9 hG9
     simp only [Act.put,sA,s0,s1] at hK9
     go_simp
     exact hK9 _ _ rfl (sy hG9 hC9) bR
    refine aa (undef) (fun vs L9 w9 hG9 hC9 hB K9 hK9=>?hb17) ?rb17
    case hb17 =>
     replace hC9:=hC9.here hG9
     have d16:=fe hB 16
     simp only [d16] at hK9 ⊢
     obtain ⟨A,c,e15,ho⟩:=fs hB 15
     simp only [e15] at hK9 ⊢
     have P9:=P1b.below hC9 P1b.lt
     have q0:=P9.cell 0
     have f0:=P9.frozen 0
     simp only [List.getElem?_cons_zero] at q0
     have ho:=Lib.hid ho
     go_simp
     exact hK9 _ _ rfl (Sw.turn ⟨w9,A,c,hC9,ho.out,rfl⟩) (fun hq=>(hq (by decide)).elim)
    refine ax fun vs L9 w9 hL9 hC9 hB=>?_
    replace hC9:=hC9.done hL9 (by decide)
    obtain ⟨W8,A,c,hb8,ho8,rfl⟩:=hC9
    clear hB hL9
    have P8:=P1b.below hb8 P1b.lt
    have hoT:=aF ho8 P8 cy 0 (F A (k+1+(x.t.length - k)) c)
    have hoO:=aF (ac hO4 hb8) P8 cR 0 (F A (k+1+(x.t.length - k)) c)
    have P9:=P8.set 0 (F A (k+1+(x.t.length - k)) c)
    have L2c:=(L2b.below hb8 L2b.lt).other (p:=⟨W2.heap.size,0,none⟩) (by simp; omega) (F A (k+1+(x.t.length - k)) c)
    have b9:=(b4.trans (hb8.mono b4.size)).setCell (p:=⟨W2.heap.size,0,none⟩) hg7 (F A (k+1+(x.t.length - k)) c)
    have hoT:=af hoT b4.size
    generalize W8.setCell ⟨W2.heap.size,0,none⟩ (F A (k+1+(x.t.length - k)) c)=W9 at hoT hoO P9 L2c b9 ⊢
    have HT:=Lib.hid (aV (v0:=F A (k+1+(x.t.length - k)) c) (v1:=F OA x.o.length oc) (v2:=O U x.got) (v3:=O U x.sold) (v4:=O U x.missed) L2c hoT cy)
    have HO:=Lib.hid (aV (v0:=F A (k+1+(x.t.length - k)) c) (v1:=F OA x.o.length oc) (v2:=O U x.got) (v3:=O U x.sold) (v4:=O U x.missed) L2c hoO cR)
    have bz:=b9.trans (bI (v0:=F A (k+1+(x.t.length - k)) c) (v1:=F OA x.o.length oc) (v2:=O U x.got) (v3:=O U x.sold) (v4:=O U x.missed) L2c (Nat.le_succ _))
    simp only [List.set_cons_zero] at P9
    obtain ⟨k0,k1,k2,k3,k4⟩:=cells5 P9
    obtain ⟨z0,z1,z2,z3,z4⟩:=cells5 L2c
    obtain ⟨f0,f1,f2,f3,f4⟩:=frz5 L2c
    clear hoT hoO P9 P8 L2c ho8 c0
    go_wp2
    refine bodyPost_ret (v:=.agg #[F A (k+1+(x.t.length - k)) c,F OA x.o.length oc,O U x.got,O U x.sold,O U x.missed]) (by simp [results,Tryz.results173,go_sem, *]) rfl ?_
    rw [HIN.out,HK.out]
    have hlen:((x.t.take k++[(⟨kd,n⟩ : ap)])++x.t.drop k).length=k+1+(x.t.length - k):=by
     rw [List.length_append,List.length_append,List.length_take,List.length_drop,List.length_singleton,Nat.min_eq_left hk]
    have hcs:(((x.t.take k++[(⟨kd,n⟩ : ap)])++x.t.drop k).flatMap ap.enc)=(((x.t.flatMap ap.enc).take (k * 2)++[O U kd,O U n])++(x.t.flatMap ap.enc).drop (k * 2)):=by
     rw [List.flatMap_append,List.flatMap_append,ii ap.enc 2 ap.enc_len,ij ap.enc 2 ap.enc_len]
     rfl
    exact dC.of hlen rfl rfl (by rw [hlen,hcs]; exact HT.out) HO.out bz
  ·have hke:k=x.t.length:=by omega
   have HK:Hid (cK x.t kd=k):=by unfold Hid; rw [← HP.out,List.drop_eq_nil_of_le (by omega)]; rfl
   clear HP
   have hkl : ¬ (k:Int) < (x.t.length:Int):=by omega
   have Hke:=Lib.hid hke; clear hke
   go_wp2
   refine am (Sw 17 (fun W9=>Below W4.heap.size W4 W9) (fun W9=>∃ W8 A c,Below W4.heap.size W4 W8∧W8.ownsRow W4.heap.size 104 2 (F A (k+1+(x.t.length - k)) c) (k+1+(x.t.length - k)) (((x.t.flatMap ap.enc).take (k * 2)++[O U kd,O U n])++(x.t.flatMap ap.enc).drop (k * 2))∧W9=W8.setCell ⟨W2.heap.size,0,none⟩ (F A (k+1+(x.t.length - k)) c))) (fun i w1 w2=>i ∉ [10,15,17]→Below w1.heap.size w1 w2) (by kernel_rfl) (by kernel_rfl) (by kernel_rfl) (Sw.start (Below.refl _ _).drew) ?_
   simp only [aw,Act.put,List.setIfInBounds_toArray,List.set_cons_zero,List.set_cons_succ,Nat.zero_add,Nat.reduceAdd]
   refine ak [10,15,17] (fun v w9=>∃ g,v=F (some ⟨g,0,none⟩) 0 0∧W4.heap.size≤g∧ah w9 g 104 []) ?sc0 (fun vs L9 w9 hG9 hC9 hB K9 hK9=>?hc0) ?rc0
   case sc0 =>
    intro i9 hi9 hb9 ha9 v w1 w2 hv hT9
    have hb:=hT9 (fun hm=>by
     simp only [List.mem_cons,List.not_mem_nil,or_false] at hm hb9
     rcases hm with rfl | rfl | rfl
     ·exact hb9 (by simp)
     ·exact hb9 (by simp)
     ·exact hb9 (by simp))
    obtain ⟨g,e,hg,hl⟩:=hv
    exact ⟨g,e,hg,hl.below hb hl.lt⟩
   case hc0 =>
    replace hC9:=sb hC9 hG9
    simp only [Act.put,sA,s0,s1] at hK9
    go_simp
    exact hK9 _ _ _ rfl ⟨_,rfl,hC9.size,ah.new w9 104 #[]⟩ (Sw.stay hG9 (by kernel_rfl) (by decide) (hC9.alloc hC9.size _)) (fun _=>(Below.refl _ _).alloc (Nat.le_refl _) _)
   apply aa
   case h1 =>
    intro vs L9 w9 hG9 hC9 hB K9 hK9
    replace hC9:=sb hC9 hG9
    simp only [Act.put,sA,s0,s1] at hK9
    go_simp
    exact hK9 _ _ rfl (sy hG9 hC9) bR
   apply aa
   case h1 =>
    intro vs L9 w9 hG9 hC9 hB K9 hK9
    replace hC9:=sb hC9 hG9
    have d1:=fe hB 1
    simp only [d1] at hK9 ⊢
    have q0:w9.cell? ⟨w.heap.size,0,none⟩=some (F x.TA x.t.length x.tc):=(L1b.below hC9 L1b.lt).cell 0
    simp only [Act.put,sA,s0,s1] at hK9
    go_simp
    exact hK9 _ _ rfl (sy hG9 hC9) bR
   apply aa
   case h1 =>
    intro vs L9 w9 hG9 hC9 hB K9 hK9
    replace hC9:=sb hC9 hG9
    simp only [Act.put,sA,s0,s1] at hK9
    go_simp
    exact hK9 _ _ rfl (sy hG9 hC9) bR
   apply aa
   case h1 =>
    intro vs L9 w9 hG9 hC9 hB K9 hK9
    replace hC9:=sb hC9 hG9
    have d2:=fe hB 2
    have d3:=fe hB 3
    simp only [d2,d3] at hK9 ⊢
    simp only [Act.put,sA,s0,s1] at hK9
    refine ko rfl 37 104 (.tmp 50) (.tmp 51) rfl Tryz.underlying37 2 fI x.TA x.t.length x.tc k (by rfl) (by rfl) hk hcap ?_
    exact hK9 _ _ rfl (sy hG9 hC9) bR
   refine ak [10,15,17] (fun v w9=>∃ A c,v=F A (k) c∧w9.ownsRow W4.heap.size 104 2 (F A (k) c) (k) ((x.t.flatMap ap.enc).take (k * 2))) ?sc5 (fun vs L9 w9 hG9 hC9 hB K9 hK9=>?hc5) ?rc5
   case sc5 =>
    intro i9 hi9 hb9 ha9 v w1 w2 hv hT9
    have hb:=hT9 (fun hm=>by
     simp only [List.mem_cons,List.not_mem_nil,or_false] at hm hb9
     rcases hm with rfl | rfl | rfl
     ·exact hb9 (by simp)
     ·exact hb9 (by simp)
     ·exact hb9 (by simp))
    obtain ⟨A,c,e,ho⟩:=hv
    exact ⟨A,c,e,ac ho hb⟩
   case hc5 =>
    replace hC9:=sb hC9 hG9
    have d4:=fe hB 4
    simp only [d4] at hK9 ⊢
    simp only [Act.put,sA,s0,s1] at hK9
    obtain ⟨g,e0,hg,hl⟩:=fs hB 0
    simp only [e0] at hK9 ⊢
    refine km rfl (.tmp 48) (.tmp 52) 37 rfl 104 _ 2 16 Tryz.underlying37 dw rfl (by omega) (by omega) W4.heap.size g (by rfl) hl hg W4.heap.size x.TA k x.tc _ (by rfl) (aY.take (aY.below hR4.ts hC9) k hk) (fun u hu=>dN u (List.mem_of_mem_take hu)) (by omega) ?_
    intro v' w' ho hb
    obtain ⟨A',c',rfl⟩:=av ho
    exact hK9 _ _ _ rfl ⟨A',c',rfl,ho⟩ (Sw.stay hG9 (by kernel_rfl) (by decide) (hC9.trans (hb.mono hC9.size))) (fun _=>hb)
   apply aa
   case h1 =>
    intro vs L9 w9 hG9 hC9 hB K9 hK9
    replace hC9:=sb hC9 hG9
    simp only [Act.put,sA,s0,s1] at hK9
    go_simp
    exact hK9 _ _ rfl (sy hG9 hC9) bR
   apply aa
   case h1 =>
    intro vs L9 w9 hG9 hC9 hB K9 hK9
    replace hC9:=sb hC9 hG9
    simp only [Act.put,sA,s0,s1] at hK9
    go_simp
    exact hK9 _ _ rfl (sy hG9 hC9) bR
   apply aa
   case h1 =>
    intro vs L9 w9 hG9 hC9 hB K9 hK9
    replace hC9:=sb hC9 hG9
    have d6:=fe hB 6
    have d7:=fe hB 7
    simp only [d6,d7] at hK9 ⊢
    simp only [Act.put,sA,s0,s1] at hK9
    go_simp
    exact hK9 _ _ rfl (sy hG9 hC9) bR
   refine ak [10,15,17] (fun v w9=>∃ g c,v=F (some ⟨g,0,none⟩) 1 c∧ah w9 g 104 [O U kd,O U n]) ?sc9 (fun vs L9 w9 hG9 hC9 hB K9 hK9=>?hc9) ?rc9
   case sc9 =>
    intro i9 hi9 hb9 ha9 v w1 w2 hv hT9
    have hb:=hT9 (fun hm=>by
     simp only [List.mem_cons,List.not_mem_nil,or_false] at hm hb9
     rcases hm with rfl | rfl | rfl
     ·exact hb9 (by simp)
     ·exact hb9 (by simp)
     ·exact hb9 (by simp))
    obtain ⟨g,c,e,hl⟩:=hv
    exact ⟨g,c,e,hl.below hb hl.lt⟩
   case hc9 =>
    replace hC9:=sb hC9 hG9
    have d8:=fe hB 8
    simp only [d8] at hK9 ⊢
    simp only [Act.put,sA,s0,s1] at hK9
    go_simp
    exact hK9 _ _ _ rfl ⟨_,_,rfl,ah.new w9 104 #[O U kd,O U n]⟩ (Sw.stay hG9 (by kernel_rfl) (by decide) (hC9.alloc hC9.size _)) (fun _=>(Below.refl _ _).alloc (Nat.le_refl _) _)
   refine ak [15,17] (fun v w9=>∃ A c,v=F A (k+1) c∧w9.ownsRow W4.heap.size 104 2 (F A (k+1) c) (k+1) ((x.t.flatMap ap.enc).take (k * 2)++[O U kd,O U n])) ?sc10 (fun vs L9 w9 hG9 hC9 hB K9 hK9=>?hc10) ?rc10
   case sc10 =>
    intro i9 hi9 hb9 ha9 v w1 w2 hv hT9
    have hb:=hT9 (fun hm=>by
     simp only [List.mem_cons,List.not_mem_nil,or_false] at hm hb9
     rcases hm with rfl | rfl | rfl
     ·exact hi9 rfl
     ·exact hb9 (by simp)
     ·exact hb9 (by simp))
    obtain ⟨A,c,e,ho⟩:=hv
    exact ⟨A,c,e,ac ho hb⟩
   case hc10 =>
    replace hC9:=sb hC9 hG9
    simp only [Act.put,sA,s0,s1] at hK9
    obtain ⟨A,c,e5,ho⟩:=fs hB 5
    obtain ⟨g,c9,e9,hl⟩:=fs hB 9
    simp only [e5,e9] at hK9 ⊢
    refine kp rfl (.tmp 53) (.tmp 57) 37 rfl 104 _ 2 16 Tryz.underlying37 dw rfl (by omega) (by omega) W4.heap.size _ k _ (by rfl) ho w9.heap.size (some ⟨g,0,none⟩) 1 c9 [O U kd,O U n] (by rfl) (hl.reads rfl (by omega)) (by simp [Value.oneCell']) (by omega) hC9.size ?_
    intro A' c' w' ho' _ hb
    exact hK9 _ _ _ rfl ⟨A',c',rfl,ho'⟩ (Sw.stay hG9 (by kernel_rfl) (by decide) (hC9.trans hb)) (fun hq=>(hq (by decide)).elim)
   apply aa
   case h1 =>
    intro vs L9 w9 hG9 hC9 hB K9 hK9
    replace hC9:=sb hC9 hG9
    simp only [Act.put,sA,s0,s1] at hK9
    go_simp
    exact hK9 _ _ rfl (sy hG9 hC9) bR
   apply aa
   case h1 =>
    intro vs L9 w9 hG9 hC9 hB K9 hK9
    replace hC9:=sb hC9 hG9
    have d11:=fe hB 11
    simp only [d11] at hK9 ⊢
    have q0:w9.cell? ⟨w.heap.size,0,none⟩=some (F x.TA x.t.length x.tc):=(L1b.below hC9 L1b.lt).cell 0
    simp only [Act.put,sA,s0,s1] at hK9
    go_simp
    exact hK9 _ _ rfl (sy hG9 hC9) bR
   apply aa
   case h1 =>
    intro vs L9 w9 hG9 hC9 hB K9 hK9
    replace hC9:=sb hC9 hG9
    simp only [Act.put,sA,s0,s1] at hK9
    go_simp
    exact hK9 _ _ rfl (sy hG9 hC9) bR
   refine ak [] (fun v w9=>∃ A,v=F A (x.t.length - k) (x.tc - k)∧∀ W9,Below W4.heap.size W4 W9→aY W9 W4.heap.size 2 A (x.t.length - k) ((x.t.flatMap ap.enc).drop (k * 2))) ?sc14 (fun vs L9 w9 hG9 hC9 hB K9 hK9=>?hc14) ?rc14
   case sc14 =>
    intro i9 hi9 hb9 ha9 v w1 w2 hv hT9
    exact hv
   case hc14 =>
    replace hC9:=sb hC9 hG9
    have d12:=fe hB 12
    have d13:=fe hB 13
    simp only [d12,d13] at hK9 ⊢
    simp only [Act.put,sA,s0,s1] at hK9
    refine ja rfl 37 104 (.tmp 60) (.tmp 61) rfl Tryz.underlying37 2 fI x.TA x.t.length x.tc k (by rfl) (by rfl) hk hcap ?_
    intro A' hA9
    exact hK9 _ _ _ rfl ⟨A',rfl,fun W9 hW=>hA9 _ _ _ (aY.below hR4.ts hW)⟩ (sy hG9 hC9) bR
   refine ak [17] (fun v w9=>∃ A c,v=F A (k+1+(x.t.length - k)) c∧w9.ownsRow W4.heap.size 104 2 (F A (k+1+(x.t.length - k)) c) (k+1+(x.t.length - k)) (((x.t.flatMap ap.enc).take (k * 2)++[O U kd,O U n])++(x.t.flatMap ap.enc).drop (k * 2))) ?sc15 (fun vs L9 w9 hG9 hC9 hB K9 hK9=>?hc15) ?rc15
   case sc15 =>
    intro i9 hi9 hb9 ha9 v w1 w2 hv hT9
    have hb:=hT9 (fun hm=>by
     simp only [List.mem_cons,List.not_mem_nil,or_false] at hm hb9
     rcases hm with rfl | rfl | rfl
     ·exact absurd (ha9.symm.trans (show bG .any _ _ _ _=true by kernel_rfl)) (by decide)
     ·exact hi9 rfl
     ·exact hb9 (by simp))
    obtain ⟨A,c,e,ho⟩:=hv
    exact ⟨A,c,e,ac ho hb⟩
   case hc15 =>
    replace hC9:=sb hC9 hG9
    simp only [Act.put,sA,s0,s1] at hK9
    obtain ⟨A,c,e10,ho⟩:=fs hB 10
    obtain ⟨A14,e14,hr⟩:=fs hB 14
    simp only [e10,e14] at hK9 ⊢
    refine kp rfl (.tmp 58) (.tmp 62) 37 rfl 104 _ 2 16 Tryz.underlying37 dw rfl (by omega) (by omega) W4.heap.size _ (k+1) _ (by rfl) ho W4.heap.size A14 (x.t.length - k) (x.tc - k) _ (by rfl) (hr w9 hC9) (fun u hu=>dN u (List.mem_of_mem_drop hu)) (by omega) hC9.size ?_
    intro A' c' w' ho' _ hb
    exact hK9 _ _ _ rfl ⟨A',c',rfl,ho'⟩ (Sw.stay hG9 (by kernel_rfl) (by decide) (hC9.trans hb)) (fun hq=>(hq (by decide)).elim)
   apply aa
   case h1 =>
    intro vs L9 w9 hG9 hC9 hB K9 hK9
    replace hC9:=sb hC9 hG9
    simp only [Act.put,sA,s0,s1] at hK9
    go_simp
    exact hK9 _ _ rfl (sy hG9 hC9) bR
   refine aa (undef) (fun vs L9 w9 hG9 hC9 hB K9 hK9=>?hc17) ?rc17
   case hc17 =>
    replace hC9:=hC9.here hG9
    have d16:=fe hB 16
    simp only [d16] at hK9 ⊢
    obtain ⟨A,c,e15,ho⟩:=fs hB 15
    simp only [e15] at hK9 ⊢
    have P9:=P1b.below hC9 P1b.lt
    have q0:=P9.cell 0
    have f0:=P9.frozen 0
    simp only [List.getElem?_cons_zero] at q0
    have ho:=Lib.hid ho
    go_simp
    exact hK9 _ _ rfl (Sw.turn ⟨w9,A,c,hC9,ho.out,rfl⟩) (fun hq=>(hq (by decide)).elim)
   refine ax fun vs L9 w9 hL9 hC9 hB=>?_
   replace hC9:=hC9.done hL9 (by decide)
   obtain ⟨W8,A,c,hb8,ho8,rfl⟩:=hC9
   clear hB hL9
   have P8:=P1b.below hb8 P1b.lt
   have hoT:=aF ho8 P8 cy 0 (F A (k+1+(x.t.length - k)) c)
   have hoO:=aF (ac hO4 hb8) P8 cR 0 (F A (k+1+(x.t.length - k)) c)
   have P9:=P8.set 0 (F A (k+1+(x.t.length - k)) c)
   have L2c:=(L2b.below hb8 L2b.lt).other (p:=⟨W2.heap.size,0,none⟩) (by simp; omega) (F A (k+1+(x.t.length - k)) c)
   have b9:=(b4.trans (hb8.mono b4.size)).setCell (p:=⟨W2.heap.size,0,none⟩) hg7 (F A (k+1+(x.t.length - k)) c)
   have hoT:=af hoT b4.size
   generalize W8.setCell ⟨W2.heap.size,0,none⟩ (F A (k+1+(x.t.length - k)) c)=W9 at hoT hoO P9 L2c b9 ⊢
   have HT:=Lib.hid (aV (v0:=F A (k+1+(x.t.length - k)) c) (v1:=F OA x.o.length oc) (v2:=O U x.got) (v3:=O U x.sold) (v4:=O U x.missed) L2c hoT cy)
   have HO:=Lib.hid (aV (v0:=F A (k+1+(x.t.length - k)) c) (v1:=F OA x.o.length oc) (v2:=O U x.got) (v3:=O U x.sold) (v4:=O U x.missed) L2c hoO cR)
   have bz:=b9.trans (bI (v0:=F A (k+1+(x.t.length - k)) c) (v1:=F OA x.o.length oc) (v2:=O U x.got) (v3:=O U x.sold) (v4:=O U x.missed) L2c (Nat.le_succ _))
   simp only [List.set_cons_zero] at P9
   obtain ⟨k0,k1,k2,k3,k4⟩:=cells5 P9
   obtain ⟨z0,z1,z2,z3,z4⟩:=cells5 L2c
   obtain ⟨f0,f1,f2,f3,f4⟩:=frz5 L2c
   clear hoT hoO P9 P8 L2c ho8 c0
   go_wp2
   refine bodyPost_ret (v:=.agg #[F A (k+1+(x.t.length - k)) c,F OA x.o.length oc,O U x.got,O U x.sold,O U x.missed]) (by simp [results,Tryz.results173,go_sem, *]) rfl ?_
   rw [HIN.out,HK.out]
   have hlen:((x.t.take k++[(⟨kd,n⟩ : ap)])++x.t.drop k).length=k+1+(x.t.length - k):=by
    rw [List.length_append,List.length_append,List.length_take,List.length_drop,List.length_singleton,Nat.min_eq_left hk]
   have hcs:(((x.t.take k++[(⟨kd,n⟩ : ap)])++x.t.drop k).flatMap ap.enc)=(((x.t.flatMap ap.enc).take (k * 2)++[O U kd,O U n])++(x.t.flatMap ap.enc).drop (k * 2)):=by
    rw [List.flatMap_append,List.flatMap_append,ii ap.enc 2 ap.enc_len,ij ap.enc 2 ap.enc_len]
    rfl
   exact dC.of hlen rfl rfl (by rw [hlen,hcs]; exact HT.out) HO.out bz
theorem dO {P:Program} {ops:Array Oper} {rest:List Oper} {o:Oper} {a:Act} {w0 wA:World} {Q:Exit→Act→World→Prop} (hgd:o.guard=none) (s x:Operand) (t:TypeId)
  (ho:o.op=.call { callee:=.builtin .append,args:=#[s,x],argTypes:=#[t,t] })
  (e:TypeId) (z:Value) (k bytes:Nat) (ht:P.underlying t=some (.slice e)) (hinfo:(P.info? e).map (fun i=>(i.zero,i.size,i.bytes))=some (some z,k,bytes)) (hzs:z.cells.size=k) (hsz:0 < k) (hby:bytes≤1000)
  (B:Nat) (v:Value) (n:Nat) (xs:List Value) (hs:a.eval s=v) (hown:Hid (w0.ownsRow B e k v n xs))
  (vs:Array Value) (c g:Nat) (hx:a.eval x=F (some ⟨g,0,none⟩) 1 c) (hg:w0.heap.size=g) (hvs:vs.size=k) (h1:vs.all (·.oneCell')=true) (hn:n < 1000000000) (hbase:B≤w0.heap.size)
  (hheap:wA.heap=(w0.alloc (.cells vs e)).heap) (hos:wA.os=w0.os) (htape:wA.tape=w0.tape) (hout:wA.output=w0.output)
  (h:∀ v' w',Hid (w'.ownsRow B e k v' (n+1) (xs++vs.toList))→w0.grownBy w' v.ownBlock→Below B w0 w'→(∀ g',v'.ownBlock=some g'→v.ownBlock=some g' ∨ w0.heap.size≤g')→wpList P ops Q rest (a.put o.dst v') w'):wpList P ops Q (o :: rest) a wA:=by
 subst hg
 obtain ⟨i,hi,hz,hs',hb⟩:=info_parts hinfo
 have hown':=hown.out
 have hsize:wA.heap.size=w0.heap.size+1:=by rw [hheap]; exact Array.size_push _
 have hblock:∀ j,j < w0.heap.size→wA.heap[j]?=w0.heap[j]?:=fun j hj=>by rw [hheap]; exact Below.heap_alloc w0 _ j hj
 have h4:w0.grownBy wA v.ownBlock:=⟨hos,htape,hout,by omega,fun j hj _=>hblock j hj⟩
 refine gu (w:=wA) hgd s x t ho e z k bytes ht hinfo hzs hsz hby B v n xs hs (Lib.hid (kh hheap (hown'.alloc _))) (w0.heap.size+1) (some ⟨w0.heap.size,0,none⟩) 1 c vs.toList hx (Lib.hid ⟨by simp [hvs],by omega,fun _=>⟨w0.heap.size,0,rfl,by omega, ?_⟩⟩) (fun u hu=>(Array.all_eq_true_iff_forall_mem.1 h1) u (by simpa using hu)) (by omega) (by omega) fun v' w' h2 h3 _ h5=>h v' w' h2 ?_ ?_ ?_
 ·intro j u hj
  have:=kN w0 vs e j u hj
  rw [cd] at this
  rw [← this]; exact World.cell?_of_block (by rw [hheap])
 ·exact ⟨h3.os.trans h4.os,h3.tape.trans h4.tape,h3.output.trans h4.output,Nat.le_trans h4.size h3.size,fun j hj hne=>(h3.block j (Nat.lt_of_lt_of_le hj h4.size) hne).trans (h4.block j hj hne)⟩
 ·exact ((Below.refl B w0).grown h4 hbase (fun j hj=>(hown'.lt j hj).1)).grown h3 (by omega) (fun j hj=>(hown'.lt j hj).1)
 ·intro g' hg'
  rcases h5 with h5 | h5
  ·left; rw [← h5]; exact hg'
  ·right; rw [h5] at hg'; injection hg' with hg'; omega
structure mw (w wr:World) (g9 g10:Nat) (x:aL) (vt vo:Value) (os:List ae) (kd pe c:Int):Prop where
 below:Below w.heap.size w wr
 lx:ah wr w.heap.size 40 [F x.TA x.t.length x.tc,F x.OA x.o.length x.oc,O U x.got,O U x.sold,O U x.missed]
 lr:ah wr (w.heap.size+1) 40 [F none 0 0,F none 0 0,O U 0,O U 0,O U 0]
 own:az wr w.heap.size g9 vt vo ⟨x.t,os,x.got,x.sold,x.missed⟩
 more:ah wr g10 147 [O U kd,O U pe,O U c]
 ne:vo.ownBlock ≠ some g10
 gg:w.heap.size+1 < g9∧g9 < g10
section
variable {w wr w' : World} {g9 g10:Nat} {x:aL} {vt vo v' : Value} {os:List ae} {kd pe c:Int}
theorem mw.then (h:mw w wr g9 g10 x vt vo os kd pe c) (hb:Below wr.heap.size wr w'):mw w w' g9 g10 x vt vo os kd pe c :=
 ⟨h.below.trans (hb.mono h.below.size),h.lx.below hb h.lx.lt,h.lr.below hb h.lr.lt,h.own.then hb,h.more.below hb h.more.lt,h.ne,h.gg⟩
theorem mw.far (h:mw w wr g9 g10 x vt vo os kd pe c) {g:Nat} {cs:List Value} (hL:ah wr g 40 cs):some g ≠ vo.ownBlock:=dB h.own.o hL ep
theorem mw.other (h3:wr.grownBy w' vo.ownBlock) {g:Nat} {t:TypeId} {cs:List Value} (hL:ah wr g t cs) (hne:some g ≠ vo.ownBlock) (hg:g ≠ g9):ah (w'.setCell ⟨g9,1,none⟩ v') g t cs:=(hL.kept h3 hne).other (p:=⟨g9,1,none⟩) hg v'
theorem mw.push (h:mw w wr g9 g10 x vt vo os kd pe c) {o:ae} (h3:wr.grownBy w' vo.ownBlock) (h2:w'.ownsRow w.heap.size 147 3 v' (os.length+1) (os.flatMap ae.enc++o.enc)) (hb:Below w.heap.size wr w')
  (h4:∀ g',v'.ownBlock=some g'→vo.ownBlock=some g' ∨ wr.heap.size≤g'):mw w (w'.setCell ⟨g9,1,none⟩ v') g9 g10 x vt v' (os++[o]) kd pe c:=by
 have hlt:=h.more.lt
 have g1:=h.gg.1
 have g2:=h.gg.2
 refine ⟨(h.below.trans hb).setCell (p:=⟨g9,1,none⟩) (show w.heap.size≤g9 by omega) v',mw.other h3 h.lx (h.far h.lx) (by omega),mw.other h3 h.lr (h.far h.lr) (by omega), ?_,mw.other h3 h.more (fun e=>h.ne e.symm) (by omega), ?_,h.gg⟩
 ·refine az.setO (os:=os++[o]) h.own h3 ?_
  rw [List.length_append,List.flatMap_append]; simpa using h2
 ·intro e
  rcases h4 g10 e with e | e
  ·exact h.ne e
  ·omega
theorem mw.field (h:mw w wr g9 g10 x vt vo os kd pe c) (h3:wr.grownBy w' vo.ownBlock):w'.cell? ⟨g9,1,none⟩=some vo∧w'.frozen? ⟨g9,1,none⟩=false:=by
 have hL:=h.own.lies.kept h3 (h.far h.own.lies)
 exact ⟨hL.cell 1,hL.frozen 1⟩
theorem mw.zero (h:mw w wr g9 g10 x vt vo os kd pe c):mw w (wr.setCell ⟨g10,2,none⟩ (O U 0)) g9 g10 x vt vo os kd pe 0:=by
 have g1:=h.gg.1
 have g2:=h.gg.2
 refine ⟨h.below.setCell (p:=⟨g10,2,none⟩) (show w.heap.size≤g10 by omega) _,h.lx.other (p:=⟨g10,2,none⟩) (by simp; omega) _,h.lr.other (p:=⟨g10,2,none⟩) (by simp; omega) _, ?_,h.more.set 2 _,h.ne,h.gg⟩
 have hf:∀ {v:Value} {t:TypeId} {k n:Nat} {xs:List Value},v.ownBlock ≠ some g10→wr.ownsRow w.heap.size t k v n xs→(wr.setCell ⟨g10,2,none⟩ (O U 0)).ownsRow w.heap.size t k v n xs:=fun hne ho=>ho.kept (ab (World.grownBy.refl wr (some g10))) (.inr hne)
 exact ⟨h.own.lies.other (p:=⟨g10,2,none⟩) (by simp; omega) _,h.own.hg,hf (fun e=>dB h.own.t h.more (by decide) e.symm) h.own.t,hf h.ne h.own.o⟩
theorem mw.count (h:mw w wr g9 g10 x vt vo os kd pe c):wr.cell? ⟨g10,2,none⟩=some (O U c)∧wr.frozen? ⟨g10,2,none⟩=false:=⟨h.more.cell 2,h.more.frozen 2⟩
end
theorem iH:(Tryz.prog.info? 147).map (fun i=>(i.zero,i.size,i.bytes))=some (some (.agg #[O U 0,O U 0,O U 0]),3,24):=by kernel_rfl
theorem sP {k p c:Int} {l:List ae} {i:Nat} (h:i < l.length):aI k p c (l.drop i) =
  if before ⟨k,p,0⟩ l[i]=true∧c ≠ 0 then ⟨k,p,c⟩ :: (if eu k p l[i] then aI k p 0 (l.drop (i+1)) else l[i] :: aI k p 0 (l.drop (i+1)))
  else if eu k p l[i] then aI k p c (l.drop (i+1)) else l[i] :: aI k p c (l.drop (i+1)):=by
 rw [List.drop_eq_getElem_cons h,aI]
set_option maxRecDepth 100000 in
set_option maxHeartbeats 4000000 in
theorem rG (x:aL) (kd pe c:Int) (w:World) (h:aM w w.heap.size x) (tl:x.t.length≤1000000) (ol:x.o.length≤1000000) (hkd:1≤kd∧kd≤99) (hpe:1≤pe∧pe≤999)
  (hob:∀ i (hi:i < x.o.length),(1≤x.o[i].k∧x.o[i].k≤99)∧(1≤x.o[i].p∧x.o[i].p≤999)) :
  Calls Tryz.prog 202 #[x.val,O U kd,O U pe,O U c] w (dC w ⟨x.t,aI kd pe c x.o,x.got,x.sold,x.missed⟩):=by
 have L1:=(ah.new w 40 #[F x.TA x.t.length x.tc,F x.OA x.o.length x.oc,O U x.got,O U x.sold,O U x.missed]).alloc (.cells #[F none 0 0,F none 0 0,O U 0,O U 0,O U 0] 40)
 have L2:=ah.new1 w (.cells #[F x.TA x.t.length x.tc,F x.OA x.o.length x.oc,O U x.got,O U x.sold,O U x.missed] 40) 40 #[F none 0 0,F none 0 0,O U 0,O U 0,O U 0]
 have b1:=(Below.refl w.heap.size w).alloc (Nat.le_refl _) (.cells #[F x.TA x.t.length x.tc,F x.OA x.o.length x.oc,O U x.got,O U x.sold,O U x.missed] 40)
 have b2:=b1.alloc b1.size (.cells #[F none 0 0,F none 0 0,O U 0,O U 0,O U 0] 40)
 clear b1
 go_enter Tryz.func202,Tryz.ntmps202
 go_wp2_with fail
 generalize ((w.alloc (.cells #[F x.TA x.t.length x.tc,F x.OA x.o.length x.oc,O U x.got,O U x.sold,O U x.missed] 40)).alloc (.cells #[F none 0 0,F none 0 0,O U 0,O U 0,O U 0] 40))=W at L1 L2 b2 ⊢
 have hR:=h.up b2 (Nat.le_refl _)
 refine (iG x W hR tl ol).mono ?_
 rintro e W2 ⟨TA,tc,OA,oc,he,hT,hO,hb2⟩
 have he:e=.returned (.agg #[F TA x.t.length tc,F OA x.o.length oc,O U x.got,O U x.sold,O U x.missed]):=he
 subst he
 simp only [aL.c] at hT hO
 have L1a:=(L1.below hb2 L1.lt).alloc (.cells #[F TA x.t.length tc,F OA x.o.length oc,O U x.got,O U x.sold,O U x.missed] 40)
 have L2a:=(L2.below hb2 L2.lt).alloc (.cells #[F TA x.t.length tc,F OA x.o.length oc,O U x.got,O U x.sold,O U x.missed] 40)
 have P1:=ah.new W2 40 #[F TA x.t.length tc,F OA x.o.length oc,O U x.got,O U x.sold,O U x.missed]
 have hal:=(Below.refl W2.heap.size W2).alloc (Nat.le_refl _) (.cells #[F TA x.t.length tc,F OA x.o.length oc,O U x.got,O U x.sold,O U x.missed] 40)
 have hT3:=af (ac hT hal) b2.size
 have b3:=b2.trans ((aq hb2 hal).mono b2.size)
 have hR3:=(h.below b3)
 have hg8:w.heap.size+1 < W2.heap.size:=Nat.lt_of_lt_of_le L2.lt hb2.size
 have hos:x.o.length≤x.o.length:=Nat.le_refl _
 clear L1 L2 b2 hb2 hT hO hal hR
 obtain ⟨W3,hW3⟩ : ∃ W3,W2.alloc (.cells #[F TA x.t.length tc,F OA x.o.length oc,O U x.got,O U x.sold,O U x.missed] 40)=W3:=⟨_,rfl⟩
 have hs3:W3.heap.size=W2.heap.size+1:=by rw [← hW3]; simp
 rw [hW3] at L1a L2a P1 hT3 b3 hR3
 -- the empty row,and the field
 have Pe:=(P1.alloc (.cells #[] 147))
 have q1:=Pe.cell 1
 have f1:=Pe.frozen 1
 simp only [List.getElem?_cons_zero,List.getElem?_cons_succ] at q1
 have Le:=(ah.new W3 147 #[])
 obtain ⟨W4,hW4⟩ : ∃ W4,(W3.alloc (.cells #[] 147)).setCell ⟨W2.heap.size,1,none⟩ (F (some ⟨W3.heap.size,0,none⟩) 0 0)=W4:=⟨_,rfl⟩
 have hs4:W4.heap.size=W3.heap.size+1:=by rw [← hW4]; simp
 have L1d:=(L1a.alloc (.cells #[] 147)).other (p:=⟨W2.heap.size,1,none⟩) (by simp; omega) (F (some ⟨W3.heap.size,0,none⟩) 0 0)
 have L2d:=(L2a.alloc (.cells #[] 147)).other (p:=⟨W2.heap.size,1,none⟩) (by simp; omega) (F (some ⟨W3.heap.size,0,none⟩) 0 0)
 have P4:=Pe.set 1 (F (some ⟨W3.heap.size,0,none⟩) 0 0)
 have hT4:=aF (hT3.alloc (.cells #[] 147)) Pe cy 1 (F (some ⟨W3.heap.size,0,none⟩) 0 0)
 have b4:=(b3.alloc b3.size (.cells #[] 147)).setCell (p:=⟨W2.heap.size,1,none⟩) (show w.heap.size≤W2.heap.size by omega) (F (some ⟨W3.heap.size,0,none⟩) 0 0)
 have Le4:=Le.other (p:=⟨W2.heap.size,1,none⟩) (by simp; omega) (F (some ⟨W3.heap.size,0,none⟩) 0 0)
 rw [hW4] at L1d L2d P4 hT4 b4 Le4
 simp only [List.set_cons_zero,List.set_cons_succ] at P4
 have hO4:W4.ownsRow w.heap.size 147 3 (F (some ⟨W3.heap.size,0,none⟩) 0 0) 0 []:=cP Le4 (by omega)
 have hb5:=(Below.refl W4.heap.size W4).alloc (Nat.le_refl _) (.cells #[O U kd,O U pe,O U c] 147)
 have AI:mw w (W4.alloc (.cells #[O U kd,O U pe,O U c] 147)) W2.heap.size W4.heap.size x (F TA x.t.length tc) (F (some ⟨W3.heap.size,0,none⟩) 0 0) [] kd pe c :=
  ⟨b4.trans (hb5.mono b4.size),L1d.below hb5 L1d.lt,L2d.below hb5 L2d.lt,⟨P4.below hb5 P4.lt,by omega,ac hT4 hb5,ac hO4 hb5⟩,ah.new W4 147 #[O U kd,O U pe,O U c],by simp [Value.ownBlock]; omega,by omega⟩
 obtain ⟨W5,hW5⟩ : ∃ W5,W4.alloc (.cells #[O U kd,O U pe,O U c] 147)=W5:=⟨_,rfl⟩
 rw [hW5] at AI
 clear L1a L2a P1 hT3 b3 hR3 Pe Le L1d L2d P4 hT4 b4 Le4 hO4 hb5
 have HS3:=Lib.hid hs3
 have HS4:=Lib.hid hs4
 clear hs3 hs4
 go_wp2_with (first | (rw [hW3]; clear hW3) | (rw [hW4]; clear hW4) | (rw [hW5]; clear hW5))
 clear q1 f1
 generalize hg9:W2.heap.size=g9 at AI ⊢
 generalize hg10:W4.heap.size=g10 at AI ⊢
 clear hg9 hg10 HS3 HS4 hg8 hos
 have hl:=h.os.big
 go_loopw [11] (fun v wr=>∃ (k:Nat) (os:List ae) (vo:Value) (c' : Int),k≤x.o.length∧v=O U (k:Int)∧mw w wr g9 g10 x (F TA x.t.length tc) vo os kd pe c'∧os.length≤2 * k∧Hid (os++aI kd pe c' (x.o.drop k)=aI kd pe c x.o)) (fun v _=>x.o.length - (intOf v).toNat)
 case atStart=>exact ⟨0,[],_,c,Nat.zero_le _,rfl,AI,Nat.zero_le _,rfl⟩
 case round =>
  clear AI
  obtain ⟨k,os,vo,c',hk,rfl,AI,hos,HP⟩:=hrel
  by_cases hlt:k < x.o.length
  ·obtain ⟨bA,off,hA,hbA,hcell⟩:=dS.el h.os (by omega)
   obtain ⟨e0,e1,e2⟩:=hcell k hlt
   have HS:=Lib.hid (sP (k:=kd) (p:=pe) (c:=c') hlt)
   obtain ⟨⟨ok1,ok2⟩,op1,op2⟩:=hob k hlt
   obtain ⟨o,hoe⟩ : ∃ o,o=x.o[k]:=⟨_,rfl⟩
   rw [← hoe] at e0 e1 e2 HS ok1 ok2 op1 op2
   clear hoe hcell
   obtain ⟨kd1,kd2⟩:=hkd
   obtain ⟨pe1,pe2⟩:=hpe
   have e0:wr.cell? ⟨bA,off+k * 3,none⟩=some (O U o.k):=e0 ⟨wr,AI.below⟩
   have e1:wr.cell? ⟨bA,off+k * 3+1,none⟩=some (O U o.p):=e1 ⟨wr,AI.below⟩
   have e2:wr.cell? ⟨bA,off+k * 3+2,none⟩=some (O U o.c):=e2 ⟨wr,AI.below⟩
   have c1:=AI.lx.cell 1
   simp only [List.getElem?_cons_zero,List.getElem?_cons_succ] at c1
   simp only [hA] at c1
   have HA:=Lib.hid hA
   have HBA:=Lib.hid hbA
   clear hA hbA
   have HB:Hid (before ⟨kd,pe,0⟩ o=decide (1000 * kd+pe < 1000 * o.k+o.p)):=mi ⟨pe1,pe2⟩ ⟨op1,op2⟩
   have hb6:=(Below.refl wr.heap.size wr).alloc (Nat.le_refl _) (.cells #[O U o.k,O U o.p,O U o.c] 147)
   have L12:=ah.new wr 147 #[O U o.k,O U o.p,O U o.c]
   have A6:=AI.then hb6
   have h12:some wr.heap.size ≠ vo.ownBlock:=fun e=>by have:=(AI.own.o.lt _ e.symm).2; omega
   have h129:wr.heap.size ≠ g9:=fun e=>by have:=AI.own.lies.lt; omega
   have h1210:wr.heap.size ≠ g10:=fun e=>by have:=AI.more.lt; omega
   clear hb6 AI
   obtain ⟨W6,hW6⟩ : ∃ W6,wr.alloc (.cells #[O U o.k,O U o.p,O U o.c] 147)=W6:=⟨_,rfl⟩
   rw [hW6] at L12 A6
   go_wp2_with (rw [hW6]; clear hW6)
   clear e0 e1 e2 c1
   generalize wr.heap.size=g12 at L12 h12 h129 h1210 ⊢
   obtain ⟨b,hbd⟩ : ∃ b,decide (1000 * kd+pe < 1000 * o.k+o.p)=b:=⟨_,rfl⟩
   have HBD:=Lib.hid hbd; clear hbd
   refine am (fun _=>(fun W9=>Below W6.heap.size W6 W9)) (fun _ w1 w2=>Below w1.heap.size w1 w2) (by kernel_rfl) (by kernel_rfl) (by kernel_rfl) (Below.refl _ _).drew ?_
   simp only [aw,Act.put,List.setIfInBounds_toArray,List.set_cons_zero,List.set_cons_succ,Nat.zero_add,Nat.reduceAdd]
   apply aa
   case h1 =>
    intro vs L9 w9 hG9 hC9 hB K9 hK9
    have q0:w9.cell? ⟨g12,0,none⟩=some (O U o.k):=(L12.below hC9 L12.lt).cell 0
    have q1:w9.cell? ⟨g12,1,none⟩=some (O U o.p):=(L12.below hC9 L12.lt).cell 1
    have q2:w9.cell? ⟨g12,2,none⟩=some (O U o.c):=(L12.below hC9 L12.lt).cell 2
    simp only [Act.put,sA,s0,s1] at hK9
    go_simp
    exact hK9 _ _ rfl hC9 (Below.refl _ _)
   apply aa
   case h1 =>
    intro vs L9 w9 hG9 hC9 hB K9 hK9
    have d0:=fe hB 0
    simp only [d0] at hK9 ⊢
    simp only [Act.put,sA,s0,s1] at hK9
    go_simp
    refine (iC o _ ⟨ok1,ok2⟩ ⟨op1,op2⟩).mono ?_
    rintro en w8 ⟨rfl,hb8⟩
    exact hK9 _ _ rfl (hC9.trans (hb8.mono hC9.size)) hb8
   apply aa
   case h1 =>
    intro vs L9 w9 hG9 hC9 hB K9 hK9
    have q0:w9.cell? ⟨g10,0,none⟩=some (O U kd):=(A6.more.below hC9 A6.more.lt).cell 0
    have q1:w9.cell? ⟨g10,1,none⟩=some (O U pe):=(A6.more.below hC9 A6.more.lt).cell 1
    have q2:w9.cell? ⟨g10,2,none⟩=some (O U c'):=(A6.more.below hC9 A6.more.lt).cell 2
    simp only [Act.put,sA,s0,s1] at hK9
    go_simp
    exact hK9 _ _ rfl hC9 (Below.refl _ _)
   apply aa
   case h1 =>
    intro vs L9 w9 hG9 hC9 hB K9 hK9
    have d2:=fe hB 2
    simp only [d2] at hK9 ⊢
    simp only [Act.put,sA,s0,s1] at hK9
    go_simp
    refine (iC ⟨kd,pe,c'⟩ _ ⟨kd1,kd2⟩ ⟨pe1,pe2⟩).mono ?_
    rintro en w8 ⟨rfl,hb8⟩
    exact hK9 _ _ rfl (hC9.trans (hb8.mono hC9.size)) hb8
   refine aa (.bool b) (fun vs L9 w9 hG9 hC9 hB K9 hK9=>?ha4) ?ra4
   case ha4 =>
    have d1:=fe hB 1
    have d3:=fe hB 3
    simp only [d1,d3] at hK9 ⊢
    go_simp
    rw [HBD.out]
    exact hK9 _ _ rfl hC9 (Below.refl _ _)
   apply aa
   case h1 =>
    intro vs L9 w9 hG9 hC9 hB K9 hK9
    have d4:=fe hB 4
    simp only [d4] at hK9 ⊢
    simp only [Act.put,sA,s0,s1] at hK9
    go_simp
    exact hK9 _ _ rfl hC9 (Below.refl _ _)
   refine ak [] (fun v _=>b=true→v=.pointer (some ⟨g10,2,none⟩)) ?sa6 (fun vs L9 w9 hG9 hC9 hB K9 hK9=>?ha6) ?ra6
   case sa6 =>
    intro i9 hi9 hb9 ha9 v w1 w2 hv hT9
    exact hv
   case ha6 =>
    have d5:=fe hB 5
    simp only [d5] at hK9 ⊢
    cases b with
    | false =>
     go_simp
     exact hK9 _ undef _ rfl (fun hq=>by cases hq) hC9 (Below.refl _ _)
    | true =>
     go_simp
     exact hK9 _ _ _ rfl (fun _=>rfl) hC9 (Below.refl _ _)
   refine ak [] (fun v _=>b=true→v=O U c') ?sa7 (fun vs L9 w9 hG9 hC9 hB K9 hK9=>?ha7) ?ra7
   case sa7 =>
    intro i9 hi9 hb9 ha9 v w1 w2 hv hT9
    exact hv
   case ha7 =>
    have d5:=fe hB 5
    simp only [d5] at hK9 ⊢
    cases b with
    | false =>
     go_simp
     exact hK9 _ undef _ rfl (fun hq=>by cases hq) hC9 (Below.refl _ _)
    | true =>
     have d6:=hB 6 _ (by kernel_rfl) (by kernel_rfl) rfl (by decide) rfl
     simp only [d6] at hK9 ⊢
     have q0:w9.cell? ⟨g10,2,none⟩=some (O U c'):=(A6.more.below hC9 A6.more.lt).cell 2
     go_simp
     exact hK9 _ _ _ rfl (fun _=>rfl) hC9 (Below.refl _ _)
   refine ak [] (fun v _=>b=true→v=.bool (c' != 0)) ?sa8 (fun vs L9 w9 hG9 hC9 hB K9 hK9=>?ha8) ?ra8
   case sa8 =>
    intro i9 hi9 hb9 ha9 v w1 w2 hv hT9
    exact hv
   case ha8 =>
    have d5:=fe hB 5
    simp only [d5] at hK9 ⊢
    cases b with
    | false =>
     go_simp
     exact hK9 _ undef _ rfl (fun hq=>by cases hq) hC9 (Below.refl _ _)
    | true =>
     have d7:=hB 7 _ (by kernel_rfl) (by kernel_rfl) rfl (by decide) rfl
     simp only [d7] at hK9 ⊢
     go_simp
     exact hK9 _ _ _ rfl (fun _=>rfl) hC9 (Below.refl _ _)
   refine aa (.bool (b && (c' != 0))) (fun vs L9 w9 hG9 hC9 hB K9 hK9=>?ha9) ?ra9
   case ha9 =>
    have d5:=fe hB 5
    simp only [d5] at hK9 ⊢
    cases b with
    | false =>
     go_simp
     exact hK9 _ _ rfl hC9 (Below.refl _ _)
    | true =>
     have d8:=hB 8 _ (by kernel_rfl) (by kernel_rfl) rfl (by decide) rfl
     simp only [d8] at hK9 ⊢
     go_simp
     exact hK9 _ _ rfl hC9 (Below.refl _ _)
   refine ax fun vs L9 w9 hL9 hC9 hB=>?_
   have d9:=ag.eq (hB 9 _ rfl rfl (by decide))
   simp only [d9]
   clear hB hL9 d9
   have A9:=A6.then hC9
   have M9:=L12.below hC9 L12.lt
   clear A6 L12 hC9
   have m0:=A9.more.cell 0
   have m1:=A9.more.cell 1
   have m2:=A9.more.cell 2
   have r1:=A9.own.lies.cell 1
   have o0:=M9.cell 0
   have o1:=M9.cell 1
   have o2:=M9.cell 2
   simp only [List.getElem?_cons_zero,List.getElem?_cons_succ] at m0 m1 m2 r1 o0 o1 o2
   have HO9:=Lib.hid A9.own.o
   simp only at HO9
   have hs9:=A9.below.size
   by_cases hcd:b=true∧c' ≠ 0
   ·obtain ⟨hbt,hc0⟩:=hcd
    have hbf:before ⟨kd,pe,0⟩ o=true:=by rw [HB.out,HBD.out,hbt]
    have hno:=ka hbf
    have HN:Hid (os++[(⟨kd,pe,c'⟩ : ae)]++[o]++aI kd pe 0 (x.o.drop (k+1))=aI kd pe c x.o):=by
     unfold Hid; rw [← HP.out,HS.out,if_pos ⟨hbf,hc0⟩,hno,if_neg (by simp)]; simp
    have hcb:(b && (c' != 0))=true:=by rw [hbt]; simp [hc0]
    rw [hcb]
    clear HP HS HB HBD hbf hcb hc0 hbt
    have HBO:=Lib.hid hno
    by_cases hik:o.k=kd
    ·have hip : ¬ o.p=pe:=fun e=>by have:=dz.2 ⟨hik,e⟩; rw [hno] at this; cases this
     have v1:(o.k != kd)=false:=by simp [hik]
     have v2:(o.p != pe)=true:=by simp [hip]
     clear hik hip hno
     go_wp2_with (first | (rw [hW8]; clear hW8) | (at_builtin; refine dO (w0:=w9) rfl _ _ 38 rfl 147 _ 3 24 Tryz.underlying38 iH rfl (by decide) (by omega) w.heap.size _ _ _ rfl HO9 #[O U kd,O U pe,O U c'] 1 _ rfl (by first | rfl | exact Array.size_push _) rfl (by simp [Value.oneCell']) (by omega) hs9 rfl rfl rfl rfl ?_; intro v' w6 HO_w6 hg_w6 hb_w6 hn_w6; obtain ⟨A_w6,c_w6,hv_w6⟩:=av HO_w6.out; subst hv_w6; obtain ⟨q_w6,f_w6⟩:=A9.field hg_w6; have A7:=A9.push (o:=⟨kd,pe,c'⟩) hg_w6 HO_w6.out hb_w6 hn_w6; obtain ⟨zq,zf⟩:=A7.count; have A8:=A7.zero; have M7:=mw.other (v':=F A_w6 (os.length+1) c_w6) hg_w6 M9 h12 h129; have M8:=M7.other (p:=⟨g10,2,none⟩) h1210 (O U 0); have M70:=M7.cell 0; obtain ⟨W8,hW8⟩ : ∃ W8,(w6.setCell ⟨g9,1,none⟩ (F A_w6 (os.length+1) c_w6)).setCell ⟨g10,2,none⟩ (O U 0)=W8:=⟨_,rfl⟩; rw [hW8] at A8 M8; have p0:=M8.cell 0; have p1:=M8.cell 1; have p2:=M8.cell 2; have r8:=A8.own.lies.cell 1; simp only [List.getElem?_cons_zero,List.getElem?_cons_succ] at p0 p1 p2 r8; have HO8:=Lib.hid A8.own.o; simp only at HO8; have hs8:=A8.below.size; have hl8:(os++[(⟨kd,pe,c'⟩ : ae)]).length=os.length+1:=(by simp)) | (at_builtin; refine dO (w0:=W8) rfl _ _ 38 rfl 147 _ 3 24 Tryz.underlying38 iH rfl (by decide) (by omega) w.heap.size _ _ _ rfl HO8 #[O U o.k,O U o.p,O U o.c] 1 _ rfl (by first | rfl | exact Array.size_push _) rfl (by simp [Value.oneCell']) (by omega) hs8 rfl rfl rfl rfl ?_; intro v2 w10 HO_w10 hg_w10 hb_w10 hn_w10; obtain ⟨A_w10,c_w10,hv_w10⟩:=av HO_w10.out; subst hv_w10; obtain ⟨q_w10,f_w10⟩:=A8.field hg_w10; have A11:=A8.push (o:=o) hg_w10 HO_w10.out hb_w10 hn_w10; rw [hl8] at A11))
     go_roundw
     case rel=>exact ⟨k+1,os++[⟨kd,pe,c'⟩]++[o],_,0,by omega,by go_num,A11,by simp; omega,HN⟩
     case measure=>simp [intOf]; omega
    ·have v1:(o.k != kd)=true:=by simp [hik]
     clear hik hno
     go_wp2_with (first | (rw [hW8]; clear hW8) | (at_builtin; refine dO (w0:=w9) rfl _ _ 38 rfl 147 _ 3 24 Tryz.underlying38 iH rfl (by decide) (by omega) w.heap.size _ _ _ rfl HO9 #[O U kd,O U pe,O U c'] 1 _ rfl (by first | rfl | exact Array.size_push _) rfl (by simp [Value.oneCell']) (by omega) hs9 rfl rfl rfl rfl ?_; intro v' w6 HO_w6 hg_w6 hb_w6 hn_w6; obtain ⟨A_w6,c_w6,hv_w6⟩:=av HO_w6.out; subst hv_w6; obtain ⟨q_w6,f_w6⟩:=A9.field hg_w6; have A7:=A9.push (o:=⟨kd,pe,c'⟩) hg_w6 HO_w6.out hb_w6 hn_w6; obtain ⟨zq,zf⟩:=A7.count; have A8:=A7.zero; have M7:=mw.other (v':=F A_w6 (os.length+1) c_w6) hg_w6 M9 h12 h129; have M8:=M7.other (p:=⟨g10,2,none⟩) h1210 (O U 0); have M70:=M7.cell 0; obtain ⟨W8,hW8⟩ : ∃ W8,(w6.setCell ⟨g9,1,none⟩ (F A_w6 (os.length+1) c_w6)).setCell ⟨g10,2,none⟩ (O U 0)=W8:=⟨_,rfl⟩; rw [hW8] at A8 M8; have p0:=M8.cell 0; have p1:=M8.cell 1; have p2:=M8.cell 2; have r8:=A8.own.lies.cell 1; simp only [List.getElem?_cons_zero,List.getElem?_cons_succ] at p0 p1 p2 r8; have HO8:=Lib.hid A8.own.o; simp only at HO8; have hs8:=A8.below.size; have hl8:(os++[(⟨kd,pe,c'⟩ : ae)]).length=os.length+1:=(by simp)) | (at_builtin; refine dO (w0:=W8) rfl _ _ 38 rfl 147 _ 3 24 Tryz.underlying38 iH rfl (by decide) (by omega) w.heap.size _ _ _ rfl HO8 #[O U o.k,O U o.p,O U o.c] 1 _ rfl (by first | rfl | exact Array.size_push _) rfl (by simp [Value.oneCell']) (by omega) hs8 rfl rfl rfl rfl ?_; intro v2 w10 HO_w10 hg_w10 hb_w10 hn_w10; obtain ⟨A_w10,c_w10,hv_w10⟩:=av HO_w10.out; subst hv_w10; obtain ⟨q_w10,f_w10⟩:=A8.field hg_w10; have A11:=A8.push (o:=o) hg_w10 HO_w10.out hb_w10 hn_w10; rw [hl8] at A11))
     go_roundw
     case rel=>exact ⟨k+1,os++[⟨kd,pe,c'⟩]++[o],_,0,by omega,by go_num,A11,by simp; omega,HN⟩
     case measure=>simp [intOf]; omega
   ·have hcb:(b && (c' != 0))=false:=by
     cases b
     ·rfl
     ·have hc0:c'=0:=Decidable.byContradiction fun e=>hcd ⟨rfl,e⟩
      simp [hc0]
    have hnb : ¬ (before ⟨kd,pe,0⟩ o=true∧c' ≠ 0):=by rw [HB.out,HBD.out]; exact hcd
    rw [hcb]
    clear hcb hcd m0 m1 m2
    by_cases hik:o.k=kd
    ·by_cases hip:o.p=pe
     ·have hno:=dz.2 ⟨hik,hip⟩
      have HN:Hid (os++aI kd pe c' (x.o.drop (k+1))=aI kd pe c x.o):=by
       unfold Hid; rw [← HP.out,HS.out,if_neg hnb,hno,if_pos rfl]
      have v1:(o.k != kd)=false:=by simp [hik]
      have v2:(o.p != pe)=false:=by simp [hip]
      clear hik hip hno hnb HP HS HB HBD
      go_wp2
      go_roundw
      case rel=>exact ⟨k+1,os,vo,c',by omega,by go_num,A9,by omega,HN⟩
      case measure=>simp [intOf]; omega
     ·have hno:eu kd pe o=false:=by rw [Bool.eq_false_iff]; intro e; exact hip (dz.1 e).2
      have v1:(o.k != kd)=false:=by simp [hik]
      have v2:(o.p != pe)=true:=by simp [hip]
      have HN:Hid (os++[o]++aI kd pe c' (x.o.drop (k+1))=aI kd pe c x.o):=by
       unfold Hid; rw [← HP.out,HS.out,if_neg hnb,hno,if_neg (by simp)]; simp
      clear hik hip hno hnb HP HS HB HBD
      go_wp2_with (at_builtin; refine dO (w0:=w9) rfl _ _ 38 rfl 147 _ 3 24 Tryz.underlying38 iH rfl (by decide) (by omega) w.heap.size _ _ _ rfl HO9 #[O U o.k,O U o.p,O U o.c] 1 _ rfl (by first | rfl | exact Array.size_push _) rfl (by simp [Value.oneCell']) (by omega) hs9 rfl rfl rfl rfl ?_; intro v2 w10 HO_w10 hg_w10 hb_w10 hn_w10; obtain ⟨A_w10,c_w10,hv_w10⟩:=av HO_w10.out; subst hv_w10; obtain ⟨q_w10,f_w10⟩:=A9.field hg_w10; have A11:=A9.push (o:=o) hg_w10 HO_w10.out hb_w10 hn_w10)
      go_roundw
      case rel=>exact ⟨k+1,os++[o],_,c',by omega,by go_num,A11,by simp; omega,HN⟩
      case measure=>simp [intOf]; omega
    ·have hno:eu kd pe o=false:=by rw [Bool.eq_false_iff]; intro e; exact hik (dz.1 e).1
     have v1:(o.k != kd)=true:=by simp [hik]
     have HN:Hid (os++[o]++aI kd pe c' (x.o.drop (k+1))=aI kd pe c x.o):=by
      unfold Hid; rw [← HP.out,HS.out,if_neg hnb,hno,if_neg (by simp)]; simp
     clear hik hno hnb HP HS HB HBD
     go_wp2_with (at_builtin; refine dO (w0:=w9) rfl _ _ 38 rfl 147 _ 3 24 Tryz.underlying38 iH rfl (by decide) (by omega) w.heap.size _ _ _ rfl HO9 #[O U o.k,O U o.p,O U o.c] 1 _ rfl (by first | rfl | exact Array.size_push _) rfl (by simp [Value.oneCell']) (by omega) hs9 rfl rfl rfl rfl ?_; intro v2 w10 HO_w10 hg_w10 hb_w10 hn_w10; obtain ⟨A_w10,c_w10,hv_w10⟩:=av HO_w10.out; subst hv_w10; obtain ⟨q_w10,f_w10⟩:=A9.field hg_w10; have A11:=A9.push (o:=o) hg_w10 HO_w10.out hb_w10 hn_w10)
     go_roundw
     case rel=>exact ⟨k+1,os++[o],_,c',by omega,by go_num,A11,by simp; omega,HN⟩
     case measure=>simp [intOf]; omega
  ·have hke:x.o.drop k = []:=List.drop_eq_nil_of_le (by omega)
   have HE:Hid (os++(if c' ≠ 0 then [(⟨kd,pe,c'⟩ : ae)] else [])=aI kd pe c x.o):=by
    unfold Hid; rw [← HP.out,hke,aI]
   clear HP hke
   have c1:=AI.lx.cell 1
   have m0:=AI.more.cell 0
   have m1:=AI.more.cell 1
   have m2:=AI.more.cell 2
   have r1:=AI.own.lies.cell 1
   simp only [List.getElem?_cons_zero,List.getElem?_cons_succ] at c1 m0 m1 m2 r1
   have HO9:=Lib.hid AI.own.o
   simp only at HO9
   have hs9:=AI.below.size
   by_cases hc0:c'=0
   ·have HE:Hid (os=aI kd pe c x.o):=by
     have:=HE.out; rw [if_neg (by simpa using hc0),List.append_nil] at this; exact this
    have v1:(c' != 0)=false:=by simp [hc0]
    clear hc0
    obtain ⟨AV,cv,hvo⟩:=av AI.own.o
    simp only at hvo
    subst hvo
    have k0:=AI.own.lies.cell 0
    have k1:=AI.own.lies.cell 1
    have k2:=AI.own.lies.cell 2
    have k3:=AI.own.lies.cell 3
    have k4:=AI.own.lies.cell 4
    have z0:=AI.lr.cell 0
    have z1:=AI.lr.cell 1
    have z2:=AI.lr.cell 2
    have z3:=AI.lr.cell 3
    have z4:=AI.lr.cell 4
    obtain ⟨f0,f1,f2,f3,f4⟩:=frz5 AI.lr
    simp only [List.getElem?_cons_zero,List.getElem?_cons_succ] at k0 k1 k2 k3 k4 z0 z1 z2 z3 z4
    have HT:=Lib.hid (aV (v0:=F TA x.t.length tc) (v1:=(F AV os.length cv)) (v2:=O U x.got) (v3:=O U x.sold) (v4:=O U x.missed) AI.lr AI.own.t cy)
    have HO:=Lib.hid (aV (v0:=F TA x.t.length tc) (v1:=(F AV os.length cv)) (v2:=O U x.got) (v3:=O U x.sold) (v4:=O U x.missed) AI.lr AI.own.o cR)
    have bz:=AI.below.trans (bI (v0:=F TA x.t.length tc) (v1:=(F AV os.length cv)) (v2:=O U x.got) (v3:=O U x.sold) (v4:=O U x.missed) AI.lr (Nat.le_succ _))
    go_wp2
    refine bodyPost_ret (v:=.agg #[F TA x.t.length tc,F AV os.length cv,O U x.got,O U x.sold,O U x.missed]) (by simp [results,Tryz.results202,go_sem, *]) rfl ?_
    rw [← HE.out]
    exact dC.of rfl rfl rfl HT.out HO.out bz
   ·have HE:Hid (os++[(⟨kd,pe,c'⟩ : ae)]=aI kd pe c x.o):=by
     have:=HE.out; rw [if_pos hc0] at this; exact this
    have v1:(c' != 0)=true:=by simp [hc0]
    clear hc0
    go_wp2_with (first | (rw [hW8]; clear hW8) | (at_builtin; refine dO (w0:=wr) rfl _ _ 38 rfl 147 _ 3 24 Tryz.underlying38 iH rfl (by decide) (by omega) w.heap.size _ _ _ rfl HO9 #[O U kd,O U pe,O U c'] 1 _ rfl (by first | rfl | exact Array.size_push _) rfl (by simp [Value.oneCell']) (by omega) hs9 rfl rfl rfl rfl ?_; intro v2 w10 HO_w10 hg_w10 hb_w10 hn_w10; obtain ⟨A_w10,c_w10,hv_w10⟩:=av HO_w10.out; subst hv_w10; obtain ⟨q_w10,f_w10⟩:=AI.field hg_w10; have A11:=AI.push (o:=⟨kd,pe,c'⟩) hg_w10 HO_w10.out hb_w10 hn_w10; have hl8:(os++[(⟨kd,pe,c'⟩ : ae)]).length=os.length+1:=(by simp); obtain ⟨W8,hW8⟩ : ∃ W8,w10.setCell ⟨g9,1,none⟩ (F A_w10 (os.length+1) c_w10)=W8:=⟨_,rfl⟩; rw [hW8] at A11; have k0:=A11.own.lies.cell 0; have k1:=A11.own.lies.cell 1; have k2:=A11.own.lies.cell 2; have k3:=A11.own.lies.cell 3; have k4:=A11.own.lies.cell 4; have z0:=A11.lr.cell 0; have z1:=A11.lr.cell 1; have z2:=A11.lr.cell 2; have z3:=A11.lr.cell 3; have z4:=A11.lr.cell 4; have f0:=A11.lr.frozen 0; have f1:=A11.lr.frozen 1; have f2:=A11.lr.frozen 2; have f3:=A11.lr.frozen 3; have f4:=A11.lr.frozen 4; simp only [List.getElem?_cons_zero,List.getElem?_cons_succ] at k0 k1 k2 k3 k4 z0 z1 z2 z3 z4; have HT:=Lib.hid (aV (v0:=F TA x.t.length tc) (v1:=(F A_w10 (os.length+1) c_w10)) (v2:=O U x.got) (v3:=O U x.sold) (v4:=O U x.missed) A11.lr A11.own.t cy); have HO:=Lib.hid (aV (v0:=F TA x.t.length tc) (v1:=(F A_w10 (os.length+1) c_w10)) (v2:=O U x.got) (v3:=O U x.sold) (v4:=O U x.missed) A11.lr A11.own.o cR); have bz:=A11.below.trans (bI (v0:=F TA x.t.length tc) (v1:=(F A_w10 (os.length+1) c_w10)) (v2:=O U x.got) (v3:=O U x.sold) (v4:=O U x.missed) A11.lr (Nat.le_succ _))))
    refine bodyPost_ret (v:=.agg #[F TA x.t.length tc,F A_w10 (os.length+1) c_w10,O U x.got,O U x.sold,O U x.missed]) (by simp [results,Tryz.results202,go_sem, *]) rfl ?_
    rw [← HE.out]
    exact dC.of rfl hl8 rfl HT.out HO.out bz
set_option linter.unusedSimpArgs false
def gU (y:Oc) (s:dW):Oc × Bool :=
 if s.kind=2 then (⟨ai y.t s.stamp (-s.value),aI s.stamp s.person (aJ s.stamp s.person y.o+s.value) y.o,y.got,y.sold,y.missed⟩,true)
 else if s.kind=3 then (⟨ai y.t s.stamp s.value,aI s.stamp s.person (aJ s.stamp s.person y.o - s.value) y.o,y.got,y.sold,y.missed⟩,decide (s.value≤aJ s.stamp s.person y.o))
 else if s.kind=5 then (⟨y.t,aI s.stamp s.person 0 y.o,y.got,y.sold,y.missed+aJ s.stamp s.person y.o⟩,decide (0 < aJ s.stamp s.person y.o))
 else if s.kind=6 then (⟨y.t,aI s.stamp s.value (aJ s.stamp s.value (aI s.stamp s.person 0 y.o)+aJ s.stamp s.person y.o) (aI s.stamp s.person 0 y.o),y.got,y.sold,y.missed⟩,decide (0 < aJ s.stamp s.person y.o) && decide (s.value ≠ s.person))
 else (⟨y.t,aI s.stamp s.person (aJ s.stamp s.person y.o - s.value) y.o,y.got,y.sold+s.value,y.missed⟩,decide (s.value≤aJ s.stamp s.person y.o))
def fq (y:Oc) (s:dW):Oc × Bool :=
 if s.kind=1 then (⟨ai y.t s.stamp s.value,y.o,y.got+s.value,y.sold,y.missed⟩,(⟨ai y.t s.stamp s.value,y.o,y.got+s.value,y.sold,y.missed⟩ : Oc).good)
 else if au y.t s.stamp < 0 then (y,false)
 else if s.person=0 then (⟨ai y.t s.stamp (-s.value),y.o,y.got,y.sold+s.value,y.missed⟩,(⟨ai y.t s.stamp (-s.value),y.o,y.got,y.sold+s.value,y.missed⟩ : Oc).good)
 else ((gU y s).1,(gU y s).2 && (gU y s).1.good)
def pa (R:Oc × Bool):Option Oc:=if R.2 then some R.1 else none
theorem n7 {k p c:Int} (hc:c ≠ 0):∀ l:List ae,(⟨k,p,c⟩ : ae) ∈ aI k p c l
 | []=>by simp [aI,hc]
 | o :: l=>by
  rw [aI]
  split
  ·simp
  ·split
   ·exact n7 hc l
   ·exact List.mem_cons_of_mem _ (n7 hc l)
theorem qU {ts:List ap} {k p c:Int} (hc:c < 0) (l:List ae):eF ts (aI k p c l)=false:=by
 cases h:eF ts (aI k p c l) with
 | false=>rfl
 | true =>
  obtain ⟨i,hi,e⟩:=List.mem_iff_getElem.1 (n7 (k:=k) (p:=p) (c:=c) (by omega) l)
  have h1:=fm _ _ _ h i hi
  rw [e] at h1
  have:=(ae.bounds h1).2.2.1
  simp only at this
  omega
theorem Oc.bad {y:Oc} (h:eF y.t y.o=false):y.good=false:=by
 show al _=false
 unfold al
 rw [show eF (y.at none 0 none 0).t (y.at none 0 none 0).o=false from h]
 simp
theorem pb (x:aL) (s:dW) (G:bo x) (hs:s.okS=true):pa (fq x.c s)=if s.ok then ba x.c s else none:=by
 obtain ⟨hst,hI⟩:=dW.okS_is hs
 have hok:=dW.ok_okS s
 rw [hs,Bool.true_and] at hok
 obtain ⟨kd,st,pe,va⟩:=s
 have hA:=G.asc
 obtain ⟨n0,n1⟩:=G.at_bd st pe
 unfold fq ba pa Oc.fin gU
 simp only at hok
 simp only [aL.c]
 obtain ⟨n,hn⟩ : ∃ n,aJ st pe x.o=n:=⟨_,rfl⟩
 simp only [hn] at n0 n1 ⊢
 by_cases hT:au x.t st < 0
 ·cases hI with
  | get hk hp hv=>simp only at hk; subst hk; simp [hok]; rfl
  | show_ hk hp hv=>simp only at hk; subst hk; simp [hT,hok]
  | back hk hp hv=>simp only at hk; subst hk; simp [hT,hok]
  | sell0 hk hp hv=>simp only at hk; subst hk; simp [hT,hok]
  | sell hk hp hv=>simp only at hk; subst hk; simp [hT,hok]
  | miss hk hp hv=>simp only at hk; subst hk; simp [hT,hok]
  | move hk hp hv=>simp only at hk; subst hk; simp [hT]
 ·have hT' : 0≤au x.t st:=by omega
  cases hI with
  | get hk hp hv=>simp only at hk; subst hk; simp [hok]; rfl
  | show_ hk hp hv =>
   simp only at hk hp hv; subst hk
   have e:=fM (k:=st) (p:=pe) (by_:=va) x.o hA (fun _=>by omega)
   rw [hn] at e
   have hp0 : ¬ pe=0:=by omega
   simp [hT,hT',hok,e,hp0]
  | back hk hp hv =>
   simp only at hk hp hv; subst hk
   have hp0 : ¬ pe=0:=by omega
   by_cases hz:n=0
   ·have h1 : ¬ va≤n:=by omega
    have h2:0 < pe:=by omega
    simp [hT,hT',hok,hp0,hz,h1,h2]
    omega
   ·have e:=fM (k:=st) (p:=pe) (by_:=-va) x.o hA (fun h=>by omega)
    rw [hn,← Int.sub_eq_add_neg] at e
    by_cases h1:va≤n
    ·simp [hT,hT',hok,hp0,hz,h1,e]
    ·have hb:(⟨ai x.t st va,aI st pe (n - va) x.o,x.got,x.sold,x.missed⟩ : Oc).good=false:=Oc.bad (qU (by omega) _)
     simp [hT,hT',hok,hp0,hz,h1,e,hb]
  | sell0 hk hp hv=>simp only at hk hp; subst hk; subst hp; simp [hT,hT',hok]; rfl
  | sell hk hp hv =>
   simp only at hk hp hv; subst hk
   have hp0 : ¬ pe=0:=by omega
   by_cases hz:n=0
   ·have h1 : ¬ va≤n:=by omega
    have h2:0 < pe:=by omega
    simp [hT,hT',hok,hp0,hz,h1,h2]
    omega
   ·have e:=fM (k:=st) (p:=pe) (by_:=-va) x.o hA (fun h=>by omega)
    rw [hn,← Int.sub_eq_add_neg] at e
    by_cases h1:va≤n
    ·simp [hT,hT',hok,hp0,hz,h1,e]
    ·have hb:(⟨x.t,aI st pe (n - va) x.o,x.got,x.sold+va,x.missed⟩ : Oc).good=false:=Oc.bad (qU (by omega) _)
     simp [hT,hT',hok,hp0,hz,h1,e,hb]
  | miss hk hp hv =>
   simp only at hk hp hv; subst hk
   have hp0 : ¬ pe=0:=by omega
   have h2:0 < pe:=by omega
   by_cases hz:n=0
   ·simp [hT,hT',hok,hp0,hz,h2]
   ·have e:=fM (k:=st) (p:=pe) (by_:=-n) x.o hA (fun h=>by omega)
    rw [hn,show n+-n=0 by omega] at e
    have h1:0 < n:=by omega
    simp [hT,hT',hok,hp0,hz,h1,e]
  | move hk hp hv =>
   simp only at hk hp hv; subst hk
   have hp0 : ¬ pe=0:=by omega
   have h2:0 < pe:=by omega
   by_cases hq:va=pe
   ·subst hq
    simp [hT,hp0,hok]
   ·by_cases hz:n=0
    ·simp [hT,hT',hok,hp0,hz,h2]
    ·have e:=fM (k:=st) (p:=pe) (by_:=-n) x.o hA (fun h=>by omega)
     rw [hn,show n+-n=0 by omega] at e
     have hA' : mZ (aI st pe 0 x.o):=List.Pairwise.sublist (ew _) hA
     have e2:=fM (k:=st) (p:=va) (by_:=n) (aI st pe 0 x.o) hA' (fun _=>hz)
     have h1:0 < n:=by omega
     simp [hT,hT',hok,hp0,hz,h1,hq,e,e2]
set_option maxHeartbeats 4000000 in
theorem pc (s:dW) (w:World) :
  Calls Tryz.prog 126 #[s.val] w fun e w'=>e=.returned (.bool s.okS)∧Below w.heap.size w w':=by
 obtain ⟨kd,st,pe,va⟩:=s
 have hb0:=(Below.refl w.heap.size w).alloc (Nat.le_refl _) (.cells #[O U kd,O U st,O U pe,O U va] 112)
 have L:=ah.new w 112 #[O U kd,O U st,O U pe,O U va]
 obtain ⟨ok,hok⟩ : ∃ ok,ok=dW.okS ⟨kd,st,pe,va⟩:=⟨_,rfl⟩
 rw [← hok]
 unfold dW.okS at hok
 simp only at hok
 obtain ⟨v1,hv1⟩ : ∃ v,bU pe 1 999=v:=⟨_,rfl⟩
 obtain ⟨v2,hv2⟩ : ∃ v,bU va 1 9999=v:=⟨_,rfl⟩
 obtain ⟨v3,hv3⟩ : ∃ v,bU va 1 999=v:=⟨_,rfl⟩
 obtain ⟨v4,hv4⟩ : ∃ v,bU st 1 99=v:=⟨_,rfl⟩
 rw [hv1,hv2,hv3,hv4] at hok
 have HV1:=Lib.hid hv1; clear hv1
 have HV2:=Lib.hid hv2; clear hv2
 have HV3:=Lib.hid hv3; clear hv3
 have HV4:=Lib.hid hv4; clear hv4
 have HO:=Lib.hid hok; clear hok
 have c0:∀ W,W=w.alloc (.cells #[O U kd,O U st,O U pe,O U va] 112)→∀ q:an W.heap.size W,q.val.cell? ⟨w.heap.size,0,none⟩=some (O U kd):=by rintro _ rfl q; exact (q.cell L.lt).trans (L.cell 0)
 have c1:∀ W,W=w.alloc (.cells #[O U kd,O U st,O U pe,O U va] 112)→∀ q:an W.heap.size W,q.val.cell? ⟨w.heap.size,1,none⟩=some (O U st):=by rintro _ rfl q; exact (q.cell L.lt).trans (L.cell 1)
 have c2:∀ W,W=w.alloc (.cells #[O U kd,O U st,O U pe,O U va] 112)→∀ q:an W.heap.size W,q.val.cell? ⟨w.heap.size,2,none⟩=some (O U pe):=by rintro _ rfl q; exact (q.cell L.lt).trans (L.cell 2)
 have c3:∀ W,W=w.alloc (.cells #[O U kd,O U st,O U pe,O U va] 112)→∀ q:an W.heap.size W,q.val.cell? ⟨w.heap.size,3,none⟩=some (O U va):=by rintro _ rfl q; exact (q.cell L.lt).trans (L.cell 3)
 clear L
 by_cases k1:kd=1
 ·subst k1
  cases h2:(pe == 0)
  all_goals cases v2
  all_goals
   go_enter Tryz.func126,Tryz.ntmps126
   go_wp2_with fail
   generalize hW:w.alloc (.cells #[O U 1,O U st,O U pe,O U va] 112)=W at hb0 ⊢
   have d0:=c0 W hW.symm
   have d1:=c1 W hW.symm
   have d2:=c2 W hW.symm
   have d3:=c3 W hW.symm
   clear c0 c1 c2 c3 hW
   refine ar (by kernel_rfl) (by kernel_rfl) ?_
   repeat (any_goals (first | go_big_quiet_step ((first | (go_at_call 134; with_reducible refine ay HV1 (aE pe 1 999 _)) | (go_at_call 134; with_reducible refine ay HV2 (aE va 1 9999 _)))) | (refine wpQuiet_step (fun K hK=>?_); go_simp; split <;> (refine hK _ ?_; clear hK K))))
   all_goals (refine wpQuiet_nil ?_; rintro _ ⟨q1,rfl⟩)
   all_goals (go_wp2_with (first | (go_at_call 134; with_reducible refine (aE va 1 999 _).mono ?_; rintro e w1 ⟨rfl,rfl⟩; rw [HV3.out]) | (go_at_call 134; with_reducible refine (aE st 1 99 _).mono ?_; rintro e w1 ⟨rfl,rfl⟩; rw [HV4.out])))
   all_goals go_ret
   all_goals exact ⟨by rw [HO.out]; clear d0 d1 d2 d3; simp_all <;> rfl,hb0.trans (q1.below.mono hb0.size)⟩
 by_cases k2:kd=2
 ·subst k2
  cases v1
  all_goals cases v2
  all_goals
   go_enter Tryz.func126,Tryz.ntmps126
   go_wp2_with fail
   generalize hW:w.alloc (.cells #[O U 2,O U st,O U pe,O U va] 112)=W at hb0 ⊢
   have d0:=c0 W hW.symm
   have d1:=c1 W hW.symm
   have d2:=c2 W hW.symm
   have d3:=c3 W hW.symm
   clear c0 c1 c2 c3 hW
   refine ar (by kernel_rfl) (by kernel_rfl) ?_
   repeat (any_goals (first | go_big_quiet_step ((first | (go_at_call 134; with_reducible refine ay HV1 (aE pe 1 999 _)) | (go_at_call 134; with_reducible refine ay HV2 (aE va 1 9999 _)))) | (refine wpQuiet_step (fun K hK=>?_); go_simp; split <;> (refine hK _ ?_; clear hK K))))
   all_goals (refine wpQuiet_nil ?_; rintro _ ⟨q1,rfl⟩)
   all_goals (go_wp2_with (first | (go_at_call 134; with_reducible refine (aE va 1 999 _).mono ?_; rintro e w1 ⟨rfl,rfl⟩; rw [HV3.out]) | (go_at_call 134; with_reducible refine (aE st 1 99 _).mono ?_; rintro e w1 ⟨rfl,rfl⟩; rw [HV4.out])))
   all_goals go_ret
   all_goals exact ⟨by rw [HO.out]; clear d0 d1 d2 d3; simp_all <;> rfl,hb0.trans (q1.below.mono hb0.size)⟩
 by_cases k3:kd=3
 ·subst k3
  cases v1
  all_goals cases v2
  all_goals
   go_enter Tryz.func126,Tryz.ntmps126
   go_wp2_with fail
   generalize hW:w.alloc (.cells #[O U 3,O U st,O U pe,O U va] 112)=W at hb0 ⊢
   have d0:=c0 W hW.symm
   have d1:=c1 W hW.symm
   have d2:=c2 W hW.symm
   have d3:=c3 W hW.symm
   clear c0 c1 c2 c3 hW
   refine ar (by kernel_rfl) (by kernel_rfl) ?_
   repeat (any_goals (first | go_big_quiet_step ((first | (go_at_call 134; with_reducible refine ay HV1 (aE pe 1 999 _)) | (go_at_call 134; with_reducible refine ay HV2 (aE va 1 9999 _)))) | (refine wpQuiet_step (fun K hK=>?_); go_simp; split <;> (refine hK _ ?_; clear hK K))))
   all_goals (refine wpQuiet_nil ?_; rintro _ ⟨q1,rfl⟩)
   all_goals (go_wp2_with (first | (go_at_call 134; with_reducible refine (aE va 1 999 _).mono ?_; rintro e w1 ⟨rfl,rfl⟩; rw [HV3.out]) | (go_at_call 134; with_reducible refine (aE st 1 99 _).mono ?_; rintro e w1 ⟨rfl,rfl⟩; rw [HV4.out])))
   all_goals go_ret
   all_goals exact ⟨by rw [HO.out]; clear d0 d1 d2 d3; simp_all <;> rfl,hb0.trans (q1.below.mono hb0.size)⟩
 by_cases k4:kd=4
 ·subst k4
  cases v1
  all_goals cases h2:(pe == 0)
  all_goals cases v2
  all_goals
   go_enter Tryz.func126,Tryz.ntmps126
   go_wp2_with fail
   generalize hW:w.alloc (.cells #[O U 4,O U st,O U pe,O U va] 112)=W at hb0 ⊢
   have d0:=c0 W hW.symm
   have d1:=c1 W hW.symm
   have d2:=c2 W hW.symm
   have d3:=c3 W hW.symm
   clear c0 c1 c2 c3 hW
   refine ar (by kernel_rfl) (by kernel_rfl) ?_
   repeat (any_goals (first | go_big_quiet_step ((first | (go_at_call 134; with_reducible refine ay HV1 (aE pe 1 999 _)) | (go_at_call 134; with_reducible refine ay HV2 (aE va 1 9999 _)))) | (refine wpQuiet_step (fun K hK=>?_); go_simp; split <;> (refine hK _ ?_; clear hK K))))
   all_goals (refine wpQuiet_nil ?_; rintro _ ⟨q1,rfl⟩)
   all_goals (go_wp2_with (first | (go_at_call 134; with_reducible refine (aE va 1 999 _).mono ?_; rintro e w1 ⟨rfl,rfl⟩; rw [HV3.out]) | (go_at_call 134; with_reducible refine (aE st 1 99 _).mono ?_; rintro e w1 ⟨rfl,rfl⟩; rw [HV4.out])))
   all_goals go_ret
   all_goals exact ⟨by rw [HO.out]; clear d0 d1 d2 d3; simp_all <;> rfl,hb0.trans (q1.below.mono hb0.size)⟩
 by_cases k5:kd=5
 ·subst k5
  cases v1
  all_goals cases h2:(va == 0)
  all_goals
   go_enter Tryz.func126,Tryz.ntmps126
   go_wp2_with fail
   generalize hW:w.alloc (.cells #[O U 5,O U st,O U pe,O U va] 112)=W at hb0 ⊢
   have d0:=c0 W hW.symm
   have d1:=c1 W hW.symm
   have d2:=c2 W hW.symm
   have d3:=c3 W hW.symm
   clear c0 c1 c2 c3 hW
   refine ar (by kernel_rfl) (by kernel_rfl) ?_
   repeat (any_goals (first | go_big_quiet_step ((first | (go_at_call 134; with_reducible refine ay HV1 (aE pe 1 999 _)) | (go_at_call 134; with_reducible refine ay HV2 (aE va 1 9999 _)))) | (refine wpQuiet_step (fun K hK=>?_); go_simp; split <;> (refine hK _ ?_; clear hK K))))
   all_goals (refine wpQuiet_nil ?_; rintro _ ⟨q1,rfl⟩)
   all_goals (go_wp2_with (first | (go_at_call 134; with_reducible refine (aE va 1 999 _).mono ?_; rintro e w1 ⟨rfl,rfl⟩; rw [HV3.out]) | (go_at_call 134; with_reducible refine (aE st 1 99 _).mono ?_; rintro e w1 ⟨rfl,rfl⟩; rw [HV4.out])))
   all_goals go_ret
   all_goals exact ⟨by rw [HO.out]; clear d0 d1 d2 d3; simp_all <;> rfl,hb0.trans (q1.below.mono hb0.size)⟩
 by_cases k6:kd=6
 ·subst k6
  cases v1
  all_goals cases v3
  all_goals
   go_enter Tryz.func126,Tryz.ntmps126
   go_wp2_with fail
   generalize hW:w.alloc (.cells #[O U 6,O U st,O U pe,O U va] 112)=W at hb0 ⊢
   have d0:=c0 W hW.symm
   have d1:=c1 W hW.symm
   have d2:=c2 W hW.symm
   have d3:=c3 W hW.symm
   clear c0 c1 c2 c3 hW
   refine ar (by kernel_rfl) (by kernel_rfl) ?_
   repeat (any_goals (first | go_big_quiet_step ((first | (go_at_call 134; with_reducible refine ay HV1 (aE pe 1 999 _)) | (go_at_call 134; with_reducible refine ay HV2 (aE va 1 9999 _)))) | (refine wpQuiet_step (fun K hK=>?_); go_simp; split <;> (refine hK _ ?_; clear hK K))))
   all_goals (refine wpQuiet_nil ?_; rintro _ ⟨q1,rfl⟩)
   all_goals (go_wp2_with (first | (go_at_call 134; with_reducible refine (aE va 1 999 _).mono ?_; rintro e w1 ⟨rfl,rfl⟩; rw [HV3.out]) | (go_at_call 134; with_reducible refine (aE st 1 99 _).mono ?_; rintro e w1 ⟨rfl,rfl⟩; rw [HV4.out])))
   all_goals go_ret
   all_goals exact ⟨by rw [HO.out]; clear d0 d1 d2 d3; simp_all <;> rfl,hb0.trans (q1.below.mono hb0.size)⟩
 have e1:(kd == 1)=false:=by simp [k1]
 have e2:(kd == 2)=false:=by simp [k2]
 have e3:(kd == 3)=false:=by simp [k3]
 have e4:(kd == 4)=false:=by simp [k4]
 have e5:(kd == 5)=false:=by simp [k5]
 have e6:(kd == 6)=false:=by simp [k6]
 go_enter Tryz.func126,Tryz.ntmps126
 go_wp2_with fail
 generalize hW:w.alloc (.cells #[O U kd,O U st,O U pe,O U va] 112)=W at hb0 ⊢
 have d0:=c0 W hW.symm
 have d1:=c1 W hW.symm
 have d2:=c2 W hW.symm
 have d3:=c3 W hW.symm
 clear c0 c1 c2 c3 hW
 refine ar (by kernel_rfl) (by kernel_rfl) ?_
 repeat (any_goals (first | go_big_quiet_step ((first | (go_at_call 134; with_reducible refine ay HV1 (aE pe 1 999 _)) | (go_at_call 134; with_reducible refine ay HV2 (aE va 1 9999 _)))) | (refine wpQuiet_step (fun K hK=>?_); go_simp; split <;> (refine hK _ ?_; clear hK K))))
 all_goals (refine wpQuiet_nil ?_; rintro _ ⟨q1,rfl⟩)
 all_goals (go_wp2_with (first | (go_at_call 134; with_reducible refine (aE va 1 999 _).mono ?_; rintro e w1 ⟨rfl,rfl⟩; rw [HV3.out]) | (go_at_call 134; with_reducible refine (aE st 1 99 _).mono ?_; rintro e w1 ⟨rfl,rfl⟩; rw [HV4.out])))
 all_goals go_ret
 all_goals exact ⟨by rw [HO.out]; clear d0 d1 d2 d3; simp_all <;> rfl,hb0.trans (q1.below.mono hb0.size)⟩
def cq (w:World) (R:Oc × Bool) (e:Ending) (w' : World):Prop :=
 ∃ TA tc OA oc,e=.returned (.tuple #[.agg #[F TA R.1.t.length tc,F OA R.1.o.length oc,O U R.1.got,O U R.1.sold,O U R.1.missed],.bool R.2])∧w'.ownsRow w.heap.size 104 2 (F TA R.1.t.length tc) R.1.t.length (R.1.t.flatMap ap.enc) ∧
  w'.ownsRow w.heap.size 147 3 (F OA R.1.o.length oc) R.1.o.length (R.1.o.flatMap ae.enc)∧Below w.heap.size w w'
set_option maxRecDepth 100000 in
set_option maxHeartbeats 4000000 in
theorem pd (hM:∀ (x:aL) (s:dW) (w:World),aM w w.heap.size x→bo x→x.t.length≤x.tc→s.okS=true→Calls Tryz.prog 127 #[x.val,s.val] w (cq w (fq x.c s)))
  (x:aL) (s:dW) (w:World) (h:aM w w.heap.size x) (hcap:x.t.length≤x.tc) :
  Calls Tryz.prog 76 #[x.val,s.val] w (aB w (if al x && s.okS then pa (fq x.c s) else none)):=by
 obtain ⟨kd,st,pe,va⟩:=s
 have L1:=((ah.new w 40 #[F x.TA x.t.length x.tc,F x.OA x.o.length x.oc,O U x.got,O U x.sold,O U x.missed]).alloc (.cells #[O U kd,O U st,O U pe,O U va] 112)).alloc (.cells #[F none 0 0,F none 0 0,O U 0,O U 0,O U 0] 40)
 have L2:=(ah.new1 w (.cells #[F x.TA x.t.length x.tc,F x.OA x.o.length x.oc,O U x.got,O U x.sold,O U x.missed] 40) 112 #[O U kd,O U st,O U pe,O U va]).alloc (.cells #[F none 0 0,F none 0 0,O U 0,O U 0,O U 0] 40)
 have L3:=ah.new2 w (.cells #[F x.TA x.t.length x.tc,F x.OA x.o.length x.oc,O U x.got,O U x.sold,O U x.missed] 40) (.cells #[O U kd,O U st,O U pe,O U va] 112) 40 #[F none 0 0,F none 0 0,O U 0,O U 0,O U 0]
 have b1:=(Below.refl w.heap.size w).alloc (Nat.le_refl _) (.cells #[F x.TA x.t.length x.tc,F x.OA x.o.length x.oc,O U x.got,O U x.sold,O U x.missed] 40)
 have b2:=b1.alloc b1.size (.cells #[O U kd,O U st,O U pe,O U va] 112)
 have b3:=b2.alloc b2.size (.cells #[F none 0 0,F none 0 0,O U 0,O U 0,O U 0] 40)
 clear b1 b2
 have cV:=fun W hW=>dA x W hW
 have cO:=fun W=>pc ⟨kd,st,pe,va⟩ W
 have cT:=fun (G:bo x) (hs:dW.okS ⟨kd,st,pe,va⟩=true) W hW=>hM x ⟨kd,st,pe,va⟩ W hW G hcap hs
 clear hM
 cases hg:al x
 ·rw [hg] at cV
  rw [show (if false && dW.okS ⟨kd,st,pe,va⟩ then pa (fq x.c ⟨kd,st,pe,va⟩) else none)=none from rfl]
  clear hg cO cT
  ·skip
   go_enter Tryz.func76,Tryz.ntmps76
   go_wp2_with fail
   generalize (((w.alloc (.cells #[F x.TA x.t.length x.tc,F x.OA x.o.length x.oc,O U x.got,O U x.sold,O U x.missed] 40)).alloc (.cells #[O U kd,O U st,O U pe,O U va] 112)).alloc (.cells #[F none 0 0,F none 0 0,O U 0,O U 0,O U 0] 40))=W3 at L1 L2 L3 b3 ⊢
   have hR:=h.up b3 (Nat.le_refl _)
   refine (cV W3 hR).mono ?_
   rintro e W4 ⟨rfl,hb4⟩
   have k4:=b3.trans (hb4.mono b3.size)
   have L3z:=L3.below hb4 L3.lt
   have z0:=L3z.cell 0
   have z1:=L3z.cell 1
   have z2:=L3z.cell 2
   have z3:=L3z.cell 3
   have z4:=L3z.cell 4
   obtain ⟨f0,f1,f2,f3,f4⟩:=frz5 L3z
   simp only [List.getElem?_cons_zero,List.getElem?_cons_succ] at z0 z1 z2 z3 z4
   have hgr:=(ab (g:=w.heap.size+1+1) (i:=4) (u:=O U 0) (ab (g:=w.heap.size+1+1) (i:=3) (u:=O U 0) (ab (g:=w.heap.size+1+1) (i:=2) (u:=O U 0) (ab (g:=w.heap.size+1+1) (i:=1) (u:=F none 0 0) (ab (g:=w.heap.size+1+1) (i:=0) (u:=F none 0 0) (World.grownBy.refl W4 (some (w.heap.size+1+1))))))))
   have bz:=k4.grown hgr k4.size (by rintro _ ⟨⟩; omega)
   clear hgr
   go_wp2
   refine bodyPost_ret (v:=.tuple #[.agg #[F none 0 0,F none 0 0,O U 0,O U 0,O U 0],.bool false]) (by simp [results,Tryz.results76,go_sem, *]) rfl ?_
   exact aB.no rfl bz
 ·have G:=bj.1 hg
  rw [hg] at cV
  have cT:=cT G
  clear hg G
  cases hs:dW.okS ⟨kd,st,pe,va⟩
  ·rw [hs] at cO
   rw [show (if true && false then pa (fq x.c ⟨kd,st,pe,va⟩) else none)=none from rfl]
   clear hs cT
   go_enter Tryz.func76,Tryz.ntmps76
   go_wp2_with fail
   generalize (((w.alloc (.cells #[F x.TA x.t.length x.tc,F x.OA x.o.length x.oc,O U x.got,O U x.sold,O U x.missed] 40)).alloc (.cells #[O U kd,O U st,O U pe,O U va] 112)).alloc (.cells #[F none 0 0,F none 0 0,O U 0,O U 0,O U 0] 40))=W3 at L1 L2 L3 b3 ⊢
   have hR:=h.up b3 (Nat.le_refl _)
   refine (cV W3 hR).mono ?_
   rintro e W4 ⟨rfl,hb4⟩
   have L2y:=L2.below hb4 L2.lt
   obtain ⟨s0,s1,s2,s3⟩:=cells4 L2y
   go_wp2_with fail
   refine (cO W4).mono ?_
   rintro e W5 ⟨rfl,hb5⟩
   clear s0 s1 s2 s3
   have k5:=b3.trans ((aq hb4 hb5).mono b3.size)
   have L3z:=L3.below (aq hb4 hb5) L3.lt
   have z0:=L3z.cell 0
   have z1:=L3z.cell 1
   have z2:=L3z.cell 2
   have z3:=L3z.cell 3
   have z4:=L3z.cell 4
   obtain ⟨f0,f1,f2,f3,f4⟩:=frz5 L3z
   simp only [List.getElem?_cons_zero,List.getElem?_cons_succ] at z0 z1 z2 z3 z4
   have hgr:=(ab (g:=w.heap.size+1+1) (i:=4) (u:=O U 0) (ab (g:=w.heap.size+1+1) (i:=3) (u:=O U 0) (ab (g:=w.heap.size+1+1) (i:=2) (u:=O U 0) (ab (g:=w.heap.size+1+1) (i:=1) (u:=F none 0 0) (ab (g:=w.heap.size+1+1) (i:=0) (u:=F none 0 0) (World.grownBy.refl W5 (some (w.heap.size+1+1))))))))
   have bz:=k5.grown hgr k5.size (by rintro _ ⟨⟩; omega)
   clear hgr
   go_wp2
   refine bodyPost_ret (v:=.tuple #[.agg #[F none 0 0,F none 0 0,O U 0,O U 0,O U 0],.bool false]) (by simp [results,Tryz.results76,go_sem, *]) rfl ?_
   exact aB.no rfl bz
  ·have cT:=cT hs
   rw [hs] at cO
   rw [show (if true && true then pa (fq x.c ⟨kd,st,pe,va⟩) else none)=pa (fq x.c ⟨kd,st,pe,va⟩) from rfl]
   clear hs
   generalize fq x.c ⟨kd,st,pe,va⟩=R at cT ⊢
   obtain ⟨r,ok⟩:=R
   go_enter Tryz.func76,Tryz.ntmps76
   go_wp2_with fail
   generalize (((w.alloc (.cells #[F x.TA x.t.length x.tc,F x.OA x.o.length x.oc,O U x.got,O U x.sold,O U x.missed] 40)).alloc (.cells #[O U kd,O U st,O U pe,O U va] 112)).alloc (.cells #[F none 0 0,F none 0 0,O U 0,O U 0,O U 0] 40))=W3 at L1 L2 L3 b3 ⊢
   have hR:=h.up b3 (Nat.le_refl _)
   refine (cV W3 hR).mono ?_
   rintro e W4 ⟨rfl,hb4⟩
   have L2y:=L2.below hb4 L2.lt
   obtain ⟨s0,s1,s2,s3⟩:=cells4 L2y
   go_wp2_with fail
   refine (cO W4).mono ?_
   rintro e W5 ⟨rfl,hb5⟩
   clear s0 s1 s2 s3
   have L2y:=L2.below (aq hb4 hb5) L2.lt
   have L1y:=L1.below (aq hb4 hb5) L1.lt
   obtain ⟨s0,s1,s2,s3⟩:=cells4 L2y
   obtain ⟨y0,y1,y2,y3,y4⟩:=cells5 L1y
   go_wp2_with fail
   refine (cT W5 (hR.then (aq hb4 hb5))).mono ?_
   rintro e W6 ⟨TA,tc,OA,oc,rfl,hT,hO,hb6⟩
   simp only at hT hO
   clear s0 s1 s2 s3 y0 y1 y2 y3 y4
   have k56:=aq (aq hb4 hb5) hb6
   have hal:=(Below.refl W6.heap.size W6).alloc (Nat.le_refl _) (.cells #[F TA r.t.length tc,F OA r.o.length oc,O U r.got,O U r.sold,O U r.missed] 40)
   have k7:=b3.trans ((aq k56 hal).mono b3.size)
   have L3z:=L3.below (aq k56 hal) L3.lt
   have s36:W3.heap.size≤W5.heap.size:=(aq hb4 hb5).size
   have hT7:=ac hT hal
   have hO7:=ac hO hal
   have z0:=L3z.cell 0
   have z1:=L3z.cell 1
   have z2:=L3z.cell 2
   have z3:=L3z.cell 3
   have z4:=L3z.cell 4
   obtain ⟨f0,f1,f2,f3,f4⟩:=frz5 L3z
   simp only [List.getElem?_cons_zero,List.getElem?_cons_succ] at z0 z1 z2 z3 z4
   clear hT hO
   cases ok
   ·have hgr:=(ab (g:=w.heap.size+1+1) (i:=4) (u:=O U 0) (ab (g:=w.heap.size+1+1) (i:=3) (u:=O U 0) (ab (g:=w.heap.size+1+1) (i:=2) (u:=O U 0) (ab (g:=w.heap.size+1+1) (i:=1) (u:=F none 0 0) (ab (g:=w.heap.size+1+1) (i:=0) (u:=F none 0 0) (World.grownBy.refl (W6.alloc (.cells #[F TA r.t.length tc,F OA r.o.length oc,O U r.got,O U r.sold,O U r.missed] 40)) (some (w.heap.size+1+1))))))))
    have bz:=k7.grown hgr k7.size (by rintro _ ⟨⟩; omega)
    clear hgr hT7 hO7 hal
    go_wp2
    refine bodyPost_ret (v:=.tuple #[.agg #[F none 0 0,F none 0 0,O U 0,O U 0,O U 0],.bool false]) (by simp [results,Tryz.results76,go_sem, *]) rfl ?_
    exact aB.no rfl bz
   ·have hgr:=(ab (g:=w.heap.size+1+1) (i:=4) (u:=O U r.missed) (ab (g:=w.heap.size+1+1) (i:=3) (u:=O U r.sold) (ab (g:=w.heap.size+1+1) (i:=2) (u:=O U r.got) (ab (g:=w.heap.size+1+1) (i:=1) (u:=F OA r.o.length oc) (ab (g:=w.heap.size+1+1) (i:=0) (u:=F TA r.t.length tc) (World.grownBy.refl (W6.alloc (.cells #[F TA r.t.length tc,F OA r.o.length oc,O U r.got,O U r.sold,O U r.missed] 40)) (some (w.heap.size+1+1))))))))
    have bz:=k7.grown hgr k7.size (by rintro _ ⟨⟩; omega)
    have R8:=Lib.hid (af (aj hT7 L3z cy hgr) (Nat.le_trans b3.size s36))
    have R9:=Lib.hid (af (aj hO7 L3z cR hgr) (Nat.le_trans b3.size s36))
    clear hgr hT7 hO7 hal
    go_wp2
    refine bodyPost_ret (v:=.tuple #[.agg #[F TA r.t.length tc,F OA r.o.length oc,O U r.got,O U r.sold,O U r.missed],.bool true]) (by simp [results,Tryz.results76,go_sem, *]) rfl ?_
    exact aB.yes rfl R8.out R9.out bz
theorem qf {k p:Int} {l:List ae} {i:Nat} (h:i < l.length):aJ k p (l.drop i)=if eu k p l[i] then l[i].c else aJ k p (l.drop (i+1)):=by
 rw [List.drop_eq_getElem_cons h,aJ]
set_option maxHeartbeats 2000000 in
theorem fB (x:aL) (kd pe:Int) (w:World) (h:aM w w.heap.size x) :
  Calls Tryz.prog 201 #[x.val,O U kd,O U pe] w fun e w'=>e=.returned (O U (aJ kd pe x.o))∧Below w.heap.size w w':=by
 have hl:=h.os.big
 have HF:Hid (aJ kd pe (x.o.drop 0)=aJ kd pe x.o):=rfl
 go_enter Tryz.func201,Tryz.ntmps201
 go_wp2
 have hb0:=(Below.refl w.heap.size w).alloc (Nat.le_refl _) (.cells #[F x.TA x.t.length x.tc,F x.OA x.o.length x.oc,O U x.got,O U x.sold,O U x.missed] 40)
 have hS:=mp.of (x:=x) (ah.new w 40 #[F x.TA x.t.length x.tc,F x.OA x.o.length x.oc,O U x.got,O U x.sold,O U x.missed])
 have hR:=h.up hb0 (Nat.le_refl _)
 generalize w.alloc (.cells #[F x.TA x.t.length x.tc,F x.OA x.o.length x.oc,O U x.got,O U x.sold,O U x.missed] 40)=W at hb0 hS hR ⊢
 have c1:=hS.c1
 have hrd:=hR.os.el
 go_loopw [7] (fun i wr=>∃ (k:Nat),k≤x.o.length∧i=O U k∧(∃ q:an W.heap.size W,wr=q.val)∧Hid (aJ kd pe (x.o.drop k)=aJ kd pe x.o)) (fun i _=>x.o.length - (intOf i).toNat)
 case atStart=>exact ⟨0,Nat.zero_le _,rfl,⟨an.start _ _,rfl⟩,HF⟩
 case round =>
  obtain ⟨k,hk,rfl,⟨q,rfl⟩,HR⟩:=hrel
  by_cases hlt:k < x.o.length
  ·obtain ⟨b,off,hA,hb,hcell⟩:=hrd (by omega)
   obtain ⟨e0,e1,e2⟩:=hcell k hlt
   have hst:=qf (k:=kd) (p:=pe) hlt
   obtain ⟨r,hre⟩ : ∃ r,r=x.o[k]:=⟨_,rfl⟩
   rw [← hre] at e0 e1 e2 hst
   simp only [hA] at c1
   clear hre hcell hrd hA
   by_cases hz:r.k=kd
   ·by_cases hy:r.p=pe
    ·have HE:Hid (r.c=aJ kd pe x.o):=by rw [if_pos (dz.2 ⟨hz,hy⟩)] at hst; rw [← hst]; exact HR.out
     have hv:(r.k == kd)=true:=by simp [hz]
     have hu:(r.p == pe)=true:=by simp [hy]
     clear hst hz hy
     go_wp2
     go_ret
     exact ⟨by rw [← HE.out]; rfl,hb0.trans (q.below.mono hb0.size)⟩
    ·have HE:Hid (aJ kd pe (x.o.drop (k+1))=aJ kd pe x.o):=by rw [if_neg (fun hh=>hy (dz.1 hh).2)] at hst; rw [← hst]; exact HR.out
     have hv:(r.k == kd)=true:=by simp [hz]
     have hu:(r.p == pe)=false:=by simp [hy]
     clear hst hz hy
     go_wp2
     go_roundw
     case rel=>exact ⟨k+1,by omega,by go_num,⟨q,rfl⟩,HE⟩
     case measure=>simp [intOf]; omega
   ·have HE:Hid (aJ kd pe (x.o.drop (k+1))=aJ kd pe x.o):=by rw [if_neg (fun hh=>hz (dz.1 hh).1)] at hst; rw [← hst]; exact HR.out
    have hv:(r.k == kd)=false:=by simp [hz]
    clear hst hz
    go_wp2
    go_roundw
    case rel=>exact ⟨k+1,by omega,by go_num,⟨q,rfl⟩,HE⟩
    case measure=>simp [intOf]; omega
  ·have HE:Hid (0=aJ kd pe x.o):=by
    have h1:=HR.out; rw [List.drop_eq_nil_of_le (by omega)] at h1; exact h1
   go_wp2
   go_ret
   exact ⟨by rw [← HE.out]; rfl,hb0.trans (q.below.mono hb0.size)⟩
end Go.Proofs.YtoeoimhemojdeaaGreatDoor
