/- Lemmas. -/
import Derived.Test.YtoeoimhemojdeaaGreatDoorFc47

set_option linter.unusedVariables false
set_option linter.unusedSimpArgs false
set_option maxHeartbeats 8000000
open Go.Value renaming int → O, slice → F, string → vw
open Go.IntKind renaming i64 → U
open Go.Proofs.Tryz renaming prog → vx

namespace Go.Proofs.YtoeoimhemojdeaaGreatDoor
open Go.RowKit
theorem bI.then {w w1 w' : World} {B g:Nat} {x:aO} {l:Lg} {R:Option (Oc × ByteArray)} {e:Ending} (hb:Below w.heap.size w w1) (BW:B≤w.heap.size) (h:bI w1 B g x l R e w'):bI w B g x l R e w':=by
 rcases h with ⟨h1,h2,h3⟩ | ⟨z,r,h1,h2,h3,h4,h5,h6⟩
 ·exact .inl ⟨h1,h2,av hb h3⟩
 ·exact .inr ⟨z,r,h1,h2,h3,(hb.mono BW).trans h4,jT hb.size h5,fun j hj vJ=>(h6 j (jL hj hb.size) vJ).trans (hb.block j hj)⟩
theorem bI.ofT {w w' : World} {B g:Nat} {x:aO} {l:Lg} {R:Option ByteArray} {e:Ending} (h:dX w R e w') (yX:di w B g x.c l) (BW:B≤w.heap.size):bI w B g x l (R.map (x.c,·)) e w':=by
 obtain ⟨⟨s,rfl,h2⟩,h3⟩:=h
 cases R with
 | none=>exact .inl ⟨rfl,⟨s,rfl⟩,h3⟩
 | some r =>
  have:=h2 r rfl
  subst this
  exact .inr ⟨x.c,s,rfl,rfl,yX.below h3,h3.mono BW,h3.size,fun j hj _=>h3.block j hj⟩
theorem bI.form {w w' : World} {B g:Nat} {x:aO} {l:Lg} {R:Option (Oc × ByteArray)} {e:Ending} (h:bI w B g x l R e w'):∃ s b,e=.returned (.tuple #[vw s,.bool b]):=by
 rcases h with ⟨_,⟨s,h2⟩,_⟩ | ⟨z,r,_,h2,_⟩
 ·exact ⟨s,false,h2⟩
 ·exact ⟨r,true,h2⟩
theorem uv {m:List Int} {rest:List Value} {k:Nat} (h:k < m.length):(bc m++rest)[k]?=some (O U m[k]):=by
 rw [List.getElem?_append_left (by simpa using h),List.getElem?_map,List.getElem?_eq_getElem h]; rfl
set_option maxRecDepth 100000 in
theorem qL (x:aO) (l:Lg) (line:ByteArray) (g:Nat) (W0 w:World) (hL:ah w g 42 [F x.TA x.t.length x.tc,F x.OA x.o.length x.oc,O U x.gt,O U x.sd,O U x.ms,vw l.D,vw l.P,O U l.n]) (hB:W0.heap.size≤g) (hb0:Below W0.heap.size W0 w)
  (hT:w.ownsRow W0.heap.size 104 2 (F x.TA x.t.length x.tc) x.t.length (x.t.flatMap aq.enc)) (hO:w.ownsRow W0.heap.size 147 3 (F x.OA x.o.length x.oc) x.o.length (x.o.flatMap ae.enc)) (G:bH x) (hs:line.size≤1000) (yY:LW W0) :
  Calls vx 52 #[.pointer (some ⟨g,0,none⟩),vw line] w (bI w W0.heap.size g x l (iL x line)):=by
 have Es:=yY.then hb0
 have BW:W0.heap.size≤w.heap.size:=hb0.size
 have hR:aP w w.heap.size x:=⟨ay hT,ay hO⟩
 have yX:di w W0.heap.size g x.c l:=⟨x.TA,x.tc,x.OA,x.oc,hL,hT,hO⟩
 have DD:=tF line 32 w oM Es
 have Fz:=mI (b:=32) (n:=1000) (s:=bl line) (by rw [ao]; exact hs)
 have DE:=mH (b:=32) (n:=1000) (s:=bl line) (by rw [ao]; exact hs)
 have Ce:=jZ (fun h=>qC (x:=x) (line:=line) h)
 have AO:=jZ (fun ns h=>qD (x:=x) (line:=line) (ns:=ns) h)
 have BL:Hid (wd (bl line) 0=⟨((aK 32 (bl line)).getD 0 []).toArray⟩):=rfl
 obtain ⟨ps,AJ⟩ : ∃ ps,aK 32 (bl line)=ps:=⟨_,rfl⟩
 simp only [AJ] at DD Fz DE Ce AO BL
 have Eo:=jZ DE
 obtain ⟨BZ,Ex⟩:=Fz
 obtain ⟨R,Jv⟩ : ∃ R,iL x line=R:=⟨_,rfl⟩
 rw [Jv] at Ce AO ⊢
 obtain ⟨w0,FA⟩ : ∃ w0,wd (bl line) 0=w0:=⟨_,rfl⟩
 rw [FA] at AO BL
 clear AJ DE Jv FA hT hO
 go_enter Tryz.func52,Tryz.ntmps52
 go_wp2_with fail
 refine DD.mono ?_
 rintro e w3 ⟨rfl,L8,vQ⟩
 have S3:=jZ (ur.mk (w:=w) (v:=F none 0 0) (m:=[]) (rest:=[]) vQ (by rw [List.append_nil]; exact L8) (World.ownsRow_nil _ _ _ _))
 clear vQ DD L8
 obtain ⟨N1,Lb⟩ : ∃ N1,ps.length=N1+1:=⟨ps.length - 1,oM⟩
 rw [Lb]
 generalize wg:w.heap.size=g8 at S3 ⊢
 by_cases h0N:N1=0
 ·subst h0N
  go_wp2_with fail
  go_loopw [7,9,10,11,17] (fun o _ _ _ i wr=>i=O U 0∧o=F none 0 0∧Hid (ur w wr g8 ps [] (F none 0 0) [])) (fun _ _ _ _ _ _=>0)
  case atStart=>exact ⟨rfl,rfl,S3⟩
  case round =>
   clear S3
   obtain ⟨rfl,rfl,HS⟩:=hrel
   have GB:dQ (ps.drop 1)=some []:=by rw [List.drop_eq_nil_of_le oM]; rfl
   obtain ⟨m,Fp⟩ : ∃ m:List Int,([] : List Int)=m:=⟨_,rfl⟩
   rw [Fp] at HS GB
   have e0:m.length=0:=by rw [← Fp]; rfl
   clear Fp
   have BN:Hid (dQ (ps.drop 1)=some m):=GB
   have HE:=jZ (AO.out m BN.out)
   have S:=HS.out
   have bw:=S.bl
   have Bc:=hL.below bw hL.lt
   have DN:=hR.then bw
   have LW8:=S.ws
   have yd:=S.row
   have CH:=yX.below bw
   have BX:=(Es.then bw).tab
   have hb0r:=hb0.trans (bw.mono BW)
   have Iz:W0.heap.size≤wr.heap.size:=hb0r.size
   have c80:wr.cell? ⟨g8,0,none⟩=some (vw w0):=by
    rw [LW8.cell,BL.out,eH (by omega:0 < ps.length)]; exact ja ps _ _ oM
   have HB:=jZ bw
   have wX:=HE.out
   clear Ce AO BL Eo yX hL hR Es HE bw
   rw [nJ e0] at wX
   have hc:=oR x l w0 g wr Bc DN G BX
   subst wX
   go_wp2_with fail
   refine hc.mono ?_
   rintro e w7 hG
   have hM:=bI.then HB.out BW (bI.ofT hG CH Iz)
   obtain ⟨s,b,rfl⟩:=hM.form
   have HM:=jZ hM
   clear hM hG
   go_wp2_with fail
   go_ret2
   exact HM.out
 ·have Ma:0 < N1:=oM
  go_wp2_with fail
  go_loopw [7,9,10,11,17] (fun o _ _ _ i wr=>∃ (k:Nat) (A:Option Addr) (c:Nat) (m:List Int),k≤N1∧i=O U k∧o=F A m.length c∧m.length≤k∧Hid (ur w wr g8 ps [] (F A m.length c) m)∧Hid (gw m (ps.drop (k+1))=dQ (ps.drop 1))) (fun _ _ _ _ i _=>N1 - (intOf i).toNat)
  case atStart=>exact ⟨0,none,0,[],Nat.zero_le _,rfl,rfl,Nat.zero_le _,S3,mA _⟩
  case round =>
   clear S3
   obtain ⟨k,A,c,m,hk,rfl,rfl,Ft,HS,BM⟩:=hrel
   by_cases vH:k < N1
   ·have DO:k+1 < ps.length:=oM
    have Al:(k:Int) < (N1:Int):=oM
    have c0:wr.cell? ⟨g8,1+k,none⟩=some (vw ⟨(ps[k+1]'DO).toArray⟩):=by
     rw [HS.out.ws.cell,Nat.add_comm 1 k]; exact ja ps _ _ DO
    have ht:=Eo.out (ps[k+1]'DO) (List.getElem_mem _)
    obtain ⟨t,DF⟩ : ∃ t:ByteArray,t=⟨(ps[k+1]'DO).toArray⟩:=⟨_,rfl⟩
    have yK:bl t=ps[k+1]'DO:=by rw [DF,bL]
    rw [← DF] at c0
    have KO:t.size≤1000:=by rw [← ao,yK]; exact ht
    clear DF ht
    have CP:Hid (cW (bl t)=none→dQ (ps.drop 1)=none):=fun hn=>by
     rw [← BM.out]; exact mB DO (by rw [← yK]; exact hn)
    have FB:Hid (∀ n,cW (bl t)=some n→gw (m++[n]) (ps.drop (k+1+1))=dQ (ps.drop 1)):=fun n hn=>by
     rw [← BM.out]; exact (mD DO (by rw [← yK]; exact hn)).symm
    have AP:=fun W hW=>pA t W oM hW
    have Bc:=Es.then HS.out.bl
    unfold jb at AP
    obtain ⟨q,hq⟩ : ∃ q,cW (bl t)=q:=⟨_,rfl⟩
    rw [hq] at CP FB AP
    clear hq yK
    cases q with
    | none =>
     have HE:=Ce.out (CP.out rfl)
     simp only [Option.isSome_none,Option.getD_none] at AP
     rw [HE]
     clear HE
     go_wp2_with fail
     refine (AP _ Bc).mono ?_
     rintro e w4 ⟨rfl,vN⟩
     have b5:=jZ (av HS.out.bl vN)
     clear vN HS BM
     go_wp2_with fail
     go_ret2
     exact bI.no b5.out
    | some n =>
     have HN:=jZ (FB.out n rfl)
     simp only [Option.isSome_some,Option.getD_some] at AP
     go_wp2_with fail
     refine (AP _ Bc).mono ?_
     rintro e w4 ⟨rfl,vN⟩
     have Co:=jZ (HS.out.then vN)
     have Il:=jZ Co.out.row
     have wH:w.heap.size≤w4.heap.size:=Co.out.bl.size
     go_wp2_with (at_builtin; refine cZ (w0:=w4) rfl _ _ 100 rfl 3 _ 1 8 Tryz.underlying100 iD rfl (by omega) (by omega) w.heap.size _ _ _ rfl Il #[O U n] 1 _ rfl (by first | rfl | exact Array.size_push _) rfl (by simp [Value.oneCell']) (by omega) wH rfl rfl rfl rfl ?_; intro v6 w6 BG xL wk)
     have DG:=jZ (Co.out.push (n:=n) BG.out xL wk)
     obtain ⟨A6,c6,Fm⟩:=az BG.out
     subst Fm
     go_wp2
     go_roundw
     case rel=>exact ⟨k+1,A6,c6,m++[n],oM,by go_num,sP,by simp; omega,by rw [Hid]; simpa using DG.out,HN.out⟩
     case measure=>simp [intOf]; omega
   ·have Al : ¬ (k:Int) < (N1:Int):=oM
    have GB:dQ (ps.drop 1)=some m:=by
     have h1:=BM.out; rw [List.drop_eq_nil_of_le oM,nG] at h1; exact h1.symm
    have FP:=hL.lt
    have BN:Hid (dQ (ps.drop 1)=some m):=GB
    have HE:=jZ (AO.out m BN.out)
    have S:=HS.out
    have bw:=S.bl
    have Bc:=hL.below bw hL.lt
    have DN:=hR.then bw
    have LW8:=S.ws
    have yd:=S.row
    have CH:=yX.below bw
    have BX:=(Es.then bw).tab
    have hb0r:=hb0.trans (bw.mono BW)
    have Iz:W0.heap.size≤wr.heap.size:=hb0r.size
    have c80:wr.cell? ⟨g8,0,none⟩=some (vw w0):=by
     rw [LW8.cell,BL.out,eH (by omega:0 < ps.length)]; exact ja ps _ _ oM
    have hpsN:0 < N1+1:=oM
    have HB:=jZ bw
    have wX:=HE.out
    clear Ce AO BL Eo yX hL hR Es HE bw
    clear BM
    by_cases e0:m.length=0
    ·have z0:((m.length:Int) == 0)=true:=by rw [e0]; rfl
     have z1:((m.length:Int) == 1)=false:=beq_false_of_ne oM
     have z2:((m.length:Int) == 2)=false:=beq_false_of_ne oM
     have z3:((m.length:Int) == 3)=false:=beq_false_of_ne oM
     rw [nJ e0] at wX
     have hc:=oR x l w0 g wr Bc DN G BX
     subst wX
     go_wp2_with fail
     refine hc.mono ?_
     rintro e w7 hG
     have hM:=bI.then HB.out BW (bI.ofT hG CH Iz)
     obtain ⟨s,b,rfl⟩:=hM.form
     have HM:=jZ hM
     clear hM hG
     go_wp2_with fail
     go_ret2
     exact HM.out
    by_cases e1:m.length=1
    ·have z0:((m.length:Int) == 0)=false:=beq_false_of_ne oM
     have z1:((m.length:Int) == 1)=true:=by rw [e1]; rfl
     have z2:((m.length:Int) == 2)=false:=beq_false_of_ne oM
     have z3:((m.length:Int) == 3)=false:=beq_false_of_ne oM
     obtain ⟨gN,cN,rN,hv,hgN,LN,_⟩:=cd yd oM
     injection hv with ea eb ec
     subst ea; subst ec
     clear eb
     have FC:(0:Int) < (m.length:Int):=oM
     have xH:0 < m.length:=oM
     have d0n:wr.cell? ⟨gN,0,none⟩=some (O U (m[0]'xH)):=by rw [LN.cell]; exact uv xH
     rw [so e1 xH] at wX
     obtain ⟨a0,yQ⟩ : ∃ a,m[0]'xH=a:=⟨_,rfl⟩
     rw [yQ] at d0n wX
     clear yQ
     cases hq:gH x w0 a0 with
     | none =>
      have hc:∀ W,ah W g 42 [F x.TA x.t.length x.tc,F x.OA x.o.length x.oc,O U x.gt,O U x.sd,O U x.ms,vw l.D,vw l.P,O U l.n]→aP W W.heap.size x→iN W→Calls vx 98 #[.pointer (some ⟨g,0,none⟩),vw w0,O U a0] W fun e w'=>(∃ s,e=.returned (.tuple #[vw s,.bool false]))∧Below W.heap.size W w':=fun W hL hR hT=>by
       have:=sq x l w0 a0 g W hL hR G hT
       rw [hq] at this
       exact this.mono fun _ _ ⟨⟨s,h1,_⟩,h2⟩=>⟨⟨s,h1⟩,h2⟩
      rw [hq] at wX
      simp only [Option.map_none] at wX
      clear hq
      subst wX
      go_wp2_with fail
      refine al (fun _=>(fun W9=>Below wr.heap.size wr W9)) (fun _ w1 w2=>Below w1.heap.size w1 w2) kZ kZ kZ jB.drew ?_
      simp only [aw,Act.put,sA,gs0,gs1,Nat.zero_add,Nat.reduceAdd]
      refine aa _ vp0 ?_
      refine aa _ vp0 ?_
      refine aa _ (vp1 1) ?_
      apply aa
      case h1 =>
       intro vs L9 w9 vA vy hB K9 vz
       have d2:=fe hB 2
       simp only [d2] at vz ⊢
       have q0:w9.cell? ⟨g8,0,none⟩=some (vw w0):=(vy.cell LW8.lt).trans c80
       simp only [Act.put,sA,gs0,gs1] at vz
       go_simp
       exact vz _ _ rfl vy jB
      refine aa _ vp0 ?_
      refine aa _ (vp1 4) ?_
      apply aa
      case h1 =>
       intro vs L9 w9 vA vy hB K9 vz
       have d5:=fe hB 5
       simp only [d5] at vz ⊢
       have q0:w9.cell? ⟨gN,0,none⟩=some (O U a0):=(vy.cell LN.lt).trans d0n
       simp only [Act.put,sA,gs0,gs1] at vz
       go_simp
       exact vz _ _ rfl vy jB
      refine sm0 [] (fun v _=>∃ s,v=.tuple #[vw s,.bool false]) (fun vs L9 w9 vA vy hB K9 vz=>?_) ?_
      next =>
       have d0:=fe hB 0
       have d3:=fe hB 3
       have d6:=fe hB 6
       simp only [d0,d3,d6] at vz ⊢
       simp only [Act.put,sA,gs0,gs1] at vz
       go_simp
       refine (hc w9 (Bc.below vy Bc.lt) (DN.then vy) (BX.then vy)).mono ?_
       rintro en w8 ⟨⟨s,rfl⟩,vB⟩
       exact vz _ _ _ rfl ⟨s,rfl⟩ (vy.trans (vB.mono vy.size)) (vB)
      refine sm0 [] (fun v _=>∃ s,v=vw s) (fun vs L9 w9 vA vy hB K9 vz=>?_) ?_
      next =>
       simp only [Act.put,sA,gs0,gs1] at vz
       obtain ⟨s,e0⟩:=fs hB 7
       simp only [e0] at vz ⊢
       go_simp
       exact vz _ _ _ rfl ⟨s,rfl⟩ vy jB
      refine aa (.bool false) (fun vs L9 w9 vA vy hB K9 vz=>?_) ?_
      next =>
       obtain ⟨s,e0⟩:=fs hB 7
       simp only [e0] at vz ⊢
       go_simp
       exact vz _ _ rfl vy jB
      refine sm0 [] (fun v _=>∃ s,v=vw s) (fun vs L9 w9 vA vy hB K9 vz=>?_) ?_
      next =>
       simp only [Act.put,sA,gs0,gs1] at vz
       obtain ⟨s,e0⟩:=fs hB 8
       simp only [e0] at vz ⊢
       go_simp
       exact vz _ _ _ rfl ⟨s,rfl⟩ vy jB
      refine aa _ (vp1 9) ?_
      refine au fun vs L9 w9 vI vy hB=>?_
      obtain ⟨s,dl⟩:=hB 10 _ rfl rfl dD
      have dm:=ag.eq (hB 11 _ rfl rfl dD)
      simp only [dl,dm]
      clear hB dl dm
      have DP:=jZ (av HB.out vy)
      go_wp2_with fail
      go_ret2
      exact bI.no DP.out
     | some rp =>
      have hc:∀ W,ah W g 42 [F x.TA x.t.length x.tc,F x.OA x.o.length x.oc,O U x.gt,O U x.sd,O U x.ms,vw l.D,vw l.P,O U l.n]→aP W W.heap.size x→iN W→Calls vx 98 #[.pointer (some ⟨g,0,none⟩),vw w0,O U a0] W fun e w'=>e=.returned (.tuple #[vw rp,.bool true])∧Below W.heap.size W w':=fun W hL hR hT=>by
       have:=sq x l w0 a0 g W hL hR G hT
       rw [hq] at this
       exact this.mono fun _ _ ⟨⟨s,h1,h3⟩,h2⟩=>⟨by rw [h1,h3 rp rfl]; rfl,h2⟩
      rw [hq] at wX
      simp only [Option.map_some] at wX
      clear hq
      subst wX
      go_wp2_with fail
      refine al (fun _=>(fun W9=>Below wr.heap.size wr W9)) (fun _ w1 w2=>Below w1.heap.size w1 w2) kZ kZ kZ jB.drew ?_
      simp only [aw,Act.put,sA,gs0,gs1,Nat.zero_add,Nat.reduceAdd]
      refine aa _ vp0 ?_
      refine aa _ vp0 ?_
      refine aa _ (vp1 1) ?_
      apply aa
      case h1 =>
       intro vs L9 w9 vA vy hB K9 vz
       have d2:=fe hB 2
       simp only [d2] at vz ⊢
       have q0:w9.cell? ⟨g8,0,none⟩=some (vw w0):=(vy.cell LW8.lt).trans c80
       simp only [Act.put,sA,gs0,gs1] at vz
       go_simp
       exact vz _ _ rfl vy jB
      refine aa _ vp0 ?_
      refine aa _ (vp1 4) ?_
      apply aa
      case h1 =>
       intro vs L9 w9 vA vy hB K9 vz
       have d5:=fe hB 5
       simp only [d5] at vz ⊢
       have q0:w9.cell? ⟨gN,0,none⟩=some (O U a0):=(vy.cell LN.lt).trans d0n
       simp only [Act.put,sA,gs0,gs1] at vz
       go_simp
       exact vz _ _ rfl vy jB
      refine aa (.tuple #[vw rp,.bool true]) (fun vs L9 w9 vA vy hB K9 vz=>?_) ?_
      next =>
       have d0:=fe hB 0
       have d3:=fe hB 3
       have d6:=fe hB 6
       simp only [d0,d3,d6] at vz ⊢
       go_simp
       refine (hc w9 (Bc.below vy Bc.lt) (DN.then vy) (BX.then vy)).mono ?_
       rintro en w8 ⟨rfl,vB⟩
       exact vz _ _ rfl (vy.trans (vB.mono vy.size)) (vB)
      refine aa _ (vp1 7) ?_
      refine aa _ (vp1 7) ?_
      refine aa _ (vp1 8) ?_
      refine aa _ (vp1 9) ?_
      refine au fun vs L9 w9 vI vy hB=>?_
      have dl:=ag.eq (hB 10 _ rfl rfl dD)
      have dm:=ag.eq (hB 11 _ rfl rfl dD)
      simp only [dl,dm]
      clear hB dl dm
      have DP:=jZ (av HB.out vy)
      have Ld:=jZ (CH.below vy)
      go_wp2_with fail
      go_ret2
      exact bI.yes rfl Ld.out (DP.out.mono BW) DP.out.size (fun j hj _=>DP.out.block j hj)
    by_cases e2:m.length=2
    ·have z0:((m.length:Int) == 0)=false:=beq_false_of_ne oM
     have z1:((m.length:Int) == 1)=false:=beq_false_of_ne oM
     have z2:((m.length:Int) == 2)=true:=by rw [e2]; rfl
     have z3:((m.length:Int) == 3)=false:=beq_false_of_ne oM
     obtain ⟨gN,cN,rN,hv,hgN,LN,_⟩:=cd yd oM
     injection hv with ea eb ec
     subst ea; subst ec
     clear eb
     have FC:(0:Int) < (m.length:Int):=oM
     have xH:0 < m.length:=oM
     have hc:=qK x l w0 (some ⟨gN,0,none⟩) c m oM oM g W0 wr Bc hB hb0r DN (ay yd) (by intro e; injection e with e; have h1:=hgN; have h2:=FP; simp only at e; omega) yY.tab
     subst wX
     rw [e2] at hc
     have HC:=jZ hc
     clear hc
     go_upto_region 18 with fail
     go_wp2_with fail
     refine HC.out.mono ?_
     rintro e w7 hG
     have hM:=bI.then HB.out BW hG
     obtain ⟨s,b,rfl⟩:=hM.form
     have HM:=jZ hM
     clear hM hG
     go_wp2_with fail
     go_ret2
     exact HM.out
    by_cases e3:m.length=3
    ·have z0:((m.length:Int) == 0)=false:=beq_false_of_ne oM
     have z1:((m.length:Int) == 1)=false:=beq_false_of_ne oM
     have z2:((m.length:Int) == 2)=false:=beq_false_of_ne oM
     have z3:((m.length:Int) == 3)=true:=by rw [e3]; rfl
     obtain ⟨gN,cN,rN,hv,hgN,LN,_⟩:=cd yd oM
     injection hv with ea eb ec
     subst ea; subst ec
     clear eb
     have FC:(0:Int) < (m.length:Int):=oM
     have xH:0 < m.length:=oM
     have hc:=qK x l w0 (some ⟨gN,0,none⟩) c m oM oM g W0 wr Bc hB hb0r DN (ay yd) (by intro e; injection e with e; have h1:=hgN; have h2:=FP; simp only at e; omega) yY.tab
     subst wX
     rw [e3] at hc
     have HC:=jZ hc
     clear hc
     go_upto_region 18 with fail
     go_wp2_with fail
     refine HC.out.mono ?_
     rintro e w7 hG
     have hM:=bI.then HB.out BW hG
     obtain ⟨s,b,rfl⟩:=hM.form
     have HM:=jZ hM
     clear hM hG
     go_wp2_with fail
     go_ret2
     exact HM.out
    have z0:((m.length:Int) == 0)=false:=beq_false_of_ne oM
    have z1:((m.length:Int) == 1)=false:=beq_false_of_ne oM
    have z2:((m.length:Int) == 2)=false:=beq_false_of_ne oM
    have z3:((m.length:Int) == 3)=false:=beq_false_of_ne oM
    rw [qE oM] at wX
    subst wX
    go_wp2_with fail
    go_ret2
    exact bI.no HB.out
def sr:Option (Oc × ByteArray)→ByteArray
 | none=>⟨#[63]⟩
 | some r=>if 200 < r.2.size then ⟨#[108,111,110,103]⟩ else r.2
theorem ss (x:aO) (line:ByteArray):iY x line=sr (iL x line):=by unfold iY; cases iL x line <;> rfl
theorem su (x:aO) (line:ByteArray):qz x line=fx x (iL x line):=by unfold qz; cases iL x line <;> rfl
theorem nP (R:Option (Oc × ByteArray)):(sr R).size≤200:=by
 cases R with
 | none=>show (1:Nat)≤200; omega
 | some r =>
  unfold sr; simp only
  split
  ·show (4:Nat)≤200; omega
  ·omega
theorem nQ {w w' : World} {g b:Nat} {t:TypeId} {cs:List Value} (h:∀ j,j < w.heap.size→j ≠ g→w'.heap[j]?=w.heap[j]?) (hL:ah w b t cs) (vJ:b ≠ g):ah w' b t cs:=(h b hL.lt vJ).trans hL
set_option maxRecDepth 100000 in
theorem tG (x:aO) (l:Lg) (line:ByteArray) (w:World) (h:aP w w.heap.size x) (tl:x.t.length≤1048576) (ol:x.o.length≤1048576) (hs:l.D.size+l.P.size≤2000000) (yF:line.size≤1048576) (yY:LW w) (vF:dV x l=false) :
  Calls vx 16 #[aI x l,vw line] w (cK w x l line):=by
 have L1:=(ah.new w 42 #[F x.TA x.t.length x.tc,F x.OA x.o.length x.oc,O U x.gt,O U x.sd,O U x.ms,vw l.D,vw l.P,O U l.n]).alloc (.cells #[F none 0 0,F none 0 0,O U 0,O U 0,O U 0,vw ⟨#[]⟩,vw ⟨#[]⟩,O U 0] 42)
 have L2:=ah.new1 w (.cells #[F x.TA x.t.length x.tc,F x.OA x.o.length x.oc,O U x.gt,O U x.sd,O U x.ms,vw l.D,vw l.P,O U l.n] 42) 42 #[F none 0 0,F none 0 0,O U 0,O U 0,O U 0,vw ⟨#[]⟩,vw ⟨#[]⟩,O U 0]
 have b1:=bZ w (.cells #[F x.TA x.t.length x.tc,F x.OA x.o.length x.oc,O U x.gt,O U x.sd,O U x.ms,vw l.D,vw l.P,O U l.n] 42)
 have b2:=b1.alloc b1.size (.cells #[F none 0 0,F none 0 0,O U 0,O U 0,O U 0,vw ⟨#[]⟩,vw ⟨#[]⟩,O U 0] 42)
 have hW:=h.up b2 nR
 have we:w.heap.size≤w.heap.size+1:=oM
 clear b1 h
 go_enter Tryz.func16,Tryz.ntmps16
 go_wp2_with fail
 generalize ((w.alloc (.cells #[F x.TA x.t.length x.tc,F x.OA x.o.length x.oc,O U x.gt,O U x.sd,O U x.ms,vw l.D,vw l.P,O U l.n] 42)).alloc (.cells #[F none 0 0,F none 0 0,O U 0,O U 0,O U 0,vw ⟨#[]⟩,vw ⟨#[]⟩,O U 0] 42))=W at L1 L2 b2 hW ⊢
 refine (dA x l W hW hs (yY.then b2).tab).mono ?_
 rintro e W3 ⟨rfl,vQ⟩
 have K1:=L1.below vQ L1.lt
 have K2:=L2.below vQ L2.lt
 have b5:=b2.trans (vQ.mono b2.size)
 have wE:=hW.then vQ
 clear vQ L1 L2 b2 hW
 rw [vF]
 go_wp2_with fail
 refine (fA x l w.heap.size W3 K1 wE tl ol).mono ?_
 rintro e W9 ⟨v,rfl,⟨TA,tc,OA,oc,rfl,yG,yH⟩,hb9⟩
 have Q2:=K2.below hb9 K2.lt
 have b9:=b5.trans (hb9.mono b5.size)
 have wJ:=ai yG b5.size
 have wa:=ai yH b5.size
 obtain ⟨z0,z1,z2,z3,z4,z5,z6,z7⟩:=cells8 Q2
 obtain ⟨f0,f1,f2,f3,f4,f5,f6,f7⟩:=frz8 Q2
 obtain ⟨wh,vZ⟩:=dG (F TA x.c.t.length tc) (F OA x.c.o.length oc) (O U x.c.gt) (O U x.c.sd) (O U x.c.ms) (vw l.D) (vw l.P) (O U l.n) Q2 wJ wa
 have bz:=jZ (eO (g:=w.heap.size+1) (b9) we (F TA x.c.t.length tc) (F OA x.c.o.length oc) (O U x.c.gt) (O U x.c.sd) (O U x.c.ms) (vw l.D) (vw l.P) (O U l.n))
 have BO:=jZ wh
 have AR:=jZ vZ
 clear K1 K2 Q2 b5 b9 hb9 yG yH wJ wa wE wh vZ
 go_wp2_with fail
 refine bodyPost_ret (v:=.tuple #[.agg #[F TA x.c.t.length tc,F OA x.c.o.length oc,O U x.c.gt,O U x.c.sd,O U x.c.ms,vw l.D,vw l.P,O U l.n],vw ⟨#[110,111]⟩]) (by simp [results,Tryz.results16,go_sem, *]) rfl (cK.mk (by unfold f8; rw [if_neg (by rw [vF]; exact Bool.false_ne_true)]) (by unfold fq; rw [if_neg (by rw [vF]; exact Bool.false_ne_true)]) (by unfold fL; rw [if_neg (by rw [vF]; exact Bool.false_ne_true)]) ⟨TA,tc,OA,oc,rfl,BO.out,AR.out⟩ bz.out)
set_option maxRecDepth 100000 in
theorem rS (x:aO) (l:Lg) (line:ByteArray) (w:World) (h:aP w w.heap.size x) (tl:x.t.length≤1048576) (ol:x.o.length≤1048576) (hs:l.D.size+l.P.size≤2000000) (yF:line.size≤1048576) (yY:LW w) (vF:dV x l=true) (xh:dq.ok ⟨line,⟨#[]⟩⟩=false) :
  Calls vx 16 #[aI x l,vw line] w (cK w x l line):=by
 have L1:=(ah.new w 42 #[F x.TA x.t.length x.tc,F x.OA x.o.length x.oc,O U x.gt,O U x.sd,O U x.ms,vw l.D,vw l.P,O U l.n]).alloc (.cells #[F none 0 0,F none 0 0,O U 0,O U 0,O U 0,vw ⟨#[]⟩,vw ⟨#[]⟩,O U 0] 42)
 have L2:=ah.new1 w (.cells #[F x.TA x.t.length x.tc,F x.OA x.o.length x.oc,O U x.gt,O U x.sd,O U x.ms,vw l.D,vw l.P,O U l.n] 42) 42 #[F none 0 0,F none 0 0,O U 0,O U 0,O U 0,vw ⟨#[]⟩,vw ⟨#[]⟩,O U 0]
 have b1:=bZ w (.cells #[F x.TA x.t.length x.tc,F x.OA x.o.length x.oc,O U x.gt,O U x.sd,O U x.ms,vw l.D,vw l.P,O U l.n] 42)
 have b2:=b1.alloc b1.size (.cells #[F none 0 0,F none 0 0,O U 0,O U 0,O U 0,vw ⟨#[]⟩,vw ⟨#[]⟩,O U 0] 42)
 have hW:=h.up b2 nR
 have we:w.heap.size≤w.heap.size+1:=oM
 clear b1 h
 go_enter Tryz.func16,Tryz.ntmps16
 go_wp2_with fail
 generalize ((w.alloc (.cells #[F x.TA x.t.length x.tc,F x.OA x.o.length x.oc,O U x.gt,O U x.sd,O U x.ms,vw l.D,vw l.P,O U l.n] 42)).alloc (.cells #[F none 0 0,F none 0 0,O U 0,O U 0,O U 0,vw ⟨#[]⟩,vw ⟨#[]⟩,O U 0] 42))=W at L1 L2 b2 hW ⊢
 refine (dA x l W hW hs (yY.then b2).tab).mono ?_
 rintro e W3 ⟨rfl,vQ⟩
 have K1:=L1.below vQ L1.lt
 have K2:=L2.below vQ L2.lt
 have b5:=b2.trans (vQ.mono b2.size)
 have wE:=hW.then vQ
 clear vQ L1 L2 b2 hW
 rw [vF]
 go_wp2_with fail
 refine (fi ⟨line,⟨#[]⟩⟩ W3 (jT yF dD) (show (0:Nat)≤1000000000 by omega)).mono ?_
 rintro e W4 ⟨rfl,vN⟩
 have N1:=K1.below vN K1.lt
 have N2:=K2.below vN K2.lt
 have b6:=b5.trans (vN.mono b5.size)
 have wP:=wE.then vN
 clear vN K1 K2 b5 wE
 rw [xh]
 go_wp2_with fail
 refine (fA x l w.heap.size W4 N1 wP tl ol).mono ?_
 rintro e W9 ⟨v,rfl,⟨TA,tc,OA,oc,rfl,yG,yH⟩,hb9⟩
 have Q2:=N2.below hb9 N2.lt
 have b9:=b6.trans (hb9.mono b6.size)
 have wJ:=ai yG b6.size
 have wa:=ai yH b6.size
 obtain ⟨z0,z1,z2,z3,z4,z5,z6,z7⟩:=cells8 Q2
 obtain ⟨f0,f1,f2,f3,f4,f5,f6,f7⟩:=frz8 Q2
 obtain ⟨wh,vZ⟩:=dG (F TA x.c.t.length tc) (F OA x.c.o.length oc) (O U x.c.gt) (O U x.c.sd) (O U x.c.ms) (vw l.D) (vw l.P) (O U l.n) Q2 wJ wa
 have bz:=jZ (eO (g:=w.heap.size+1) (b9) we (F TA x.c.t.length tc) (F OA x.c.o.length oc) (O U x.c.gt) (O U x.c.sd) (O U x.c.ms) (vw l.D) (vw l.P) (O U l.n))
 have BO:=jZ wh
 have AR:=jZ vZ
 clear N1 N2 Q2 b6 b9 hb9 yG yH wJ wa wP wh vZ
 go_wp2_with fail
 refine bodyPost_ret (v:=.tuple #[.agg #[F TA x.c.t.length tc,F OA x.c.o.length oc,O U x.c.gt,O U x.c.sd,O U x.c.ms,vw l.D,vw l.P,O U l.n],vw ⟨#[98,97,100]⟩]) (by simp [results,Tryz.results16,go_sem, *]) rfl (cK.mk (by unfold f8; rw [if_pos vF,if_neg (by rw [xh]; exact Bool.false_ne_true)]) (by unfold fq; rw [if_pos vF,if_neg (by rw [xh]; exact Bool.false_ne_true)]) (by unfold fL; rw [if_pos vF,if_neg (by rw [xh]; exact Bool.false_ne_true)]) ⟨TA,tc,OA,oc,rfl,BO.out,AR.out⟩ bz.out)
set_option maxRecDepth 100000 in
theorem qM (x:aO) (l:Lg) (line:ByteArray) (w:World) (h:aP w w.heap.size x) (tl:x.t.length≤1048576) (ol:x.o.length≤1048576) (hs:l.D.size+l.P.size≤2000000) (yF:line.size≤1048576) (yY:LW w) (vF:dV x l=true) (xh:dq.ok ⟨line,⟨#[]⟩⟩=true) (hn:l.n=60) :
  Calls vx 16 #[aI x l,vw line] w (cK w x l line):=by
 have vJ:(l.n == 60)=true:=by rw [hn]; rfl
 have HN:=jZ hn
 clear hn
 have L1:=(ah.new w 42 #[F x.TA x.t.length x.tc,F x.OA x.o.length x.oc,O U x.gt,O U x.sd,O U x.ms,vw l.D,vw l.P,O U l.n]).alloc (.cells #[F none 0 0,F none 0 0,O U 0,O U 0,O U 0,vw ⟨#[]⟩,vw ⟨#[]⟩,O U 0] 42)
 have L2:=ah.new1 w (.cells #[F x.TA x.t.length x.tc,F x.OA x.o.length x.oc,O U x.gt,O U x.sd,O U x.ms,vw l.D,vw l.P,O U l.n] 42) 42 #[F none 0 0,F none 0 0,O U 0,O U 0,O U 0,vw ⟨#[]⟩,vw ⟨#[]⟩,O U 0]
 have b1:=bZ w (.cells #[F x.TA x.t.length x.tc,F x.OA x.o.length x.oc,O U x.gt,O U x.sd,O U x.ms,vw l.D,vw l.P,O U l.n] 42)
 have b2:=b1.alloc b1.size (.cells #[F none 0 0,F none 0 0,O U 0,O U 0,O U 0,vw ⟨#[]⟩,vw ⟨#[]⟩,O U 0] 42)
 have hW:=h.up b2 nR
 have we:w.heap.size≤w.heap.size+1:=oM
 clear b1 h
 go_enter Tryz.func16,Tryz.ntmps16
 go_wp2_with fail
 generalize ((w.alloc (.cells #[F x.TA x.t.length x.tc,F x.OA x.o.length x.oc,O U x.gt,O U x.sd,O U x.ms,vw l.D,vw l.P,O U l.n] 42)).alloc (.cells #[F none 0 0,F none 0 0,O U 0,O U 0,O U 0,vw ⟨#[]⟩,vw ⟨#[]⟩,O U 0] 42))=W at L1 L2 b2 hW ⊢
 refine (dA x l W hW hs (yY.then b2).tab).mono ?_
 rintro e W3 ⟨rfl,vQ⟩
 have K1:=L1.below vQ L1.lt
 have K2:=L2.below vQ L2.lt
 have b5:=b2.trans (vQ.mono b2.size)
 have wE:=hW.then vQ
 clear vQ L1 L2 b2 hW
 rw [vF]
 go_wp2_with fail
 refine (fi ⟨line,⟨#[]⟩⟩ W3 (jT yF dD) (show (0:Nat)≤1000000000 by omega)).mono ?_
 rintro e W4 ⟨rfl,vN⟩
 have N1:=K1.below vN K1.lt
 have N2:=K2.below vN K2.lt
 have b6:=b5.trans (vN.mono b5.size)
 have wP:=wE.then vN
 clear vN K1 K2 b5 wE
 rw [xh]
 obtain ⟨c0,c1,c2,c3,c4,c5,c6,c7⟩:=cells8 N1
 go_wp2_with fail
 refine (fA x l w.heap.size W4 N1 wP tl ol).mono ?_
 clear c0 c1 c2 c3 c4 c5 c6 c7
 rintro e W9 ⟨v,rfl,⟨TA,tc,OA,oc,rfl,yG,yH⟩,hb9⟩
 have Q2:=N2.below hb9 N2.lt
 have b9:=b6.trans (hb9.mono b6.size)
 have wJ:=ai yG b6.size
 have wa:=ai yH b6.size
 obtain ⟨z0,z1,z2,z3,z4,z5,z6,z7⟩:=cells8 Q2
 obtain ⟨f0,f1,f2,f3,f4,f5,f6,f7⟩:=frz8 Q2
 obtain ⟨wh,vZ⟩:=dG (F TA x.c.t.length tc) (F OA x.c.o.length oc) (O U x.c.gt) (O U x.c.sd) (O U x.c.ms) (vw l.D) (vw l.P) (O U l.n) Q2 wJ wa
 have bz:=jZ (eO (g:=w.heap.size+1) (b9) we (F TA x.c.t.length tc) (F OA x.c.o.length oc) (O U x.c.gt) (O U x.c.sd) (O U x.c.ms) (vw l.D) (vw l.P) (O U l.n))
 have BO:=jZ wh
 have AR:=jZ vZ
 clear N1 N2 Q2 b6 b9 hb9 yG yH wJ wa wP wh vZ
 go_wp2_with fail
 refine bodyPost_ret (v:=.tuple #[.agg #[F TA x.c.t.length tc,F OA x.c.o.length oc,O U x.c.gt,O U x.c.sd,O U x.c.ms,vw l.D,vw l.P,O U l.n],vw ⟨#[102,117,108,108]⟩]) (by simp [results,Tryz.results16,go_sem, *]) rfl (cK.mk (by unfold f8; rw [if_pos vF,if_pos xh,if_pos HN.out]) (by unfold fq; rw [if_pos vF,if_pos xh,if_pos HN.out]) (by unfold fL; rw [if_pos vF,if_pos xh,if_pos HN.out]) ⟨TA,tc,OA,oc,rfl,BO.out,AR.out⟩ bz.out)
set_option maxRecDepth 100000 in
theorem rT (x:aO) (l:Lg) (line:ByteArray) (w:World) (h:aP w w.heap.size x) (tl:x.t.length≤1048576) (ol:x.o.length≤1048576) (hs:l.D.size+l.P.size≤2000000) (yF:line.size≤1048576) (yY:LW w) (vF:dV x l=true) (xh:dq.ok ⟨line,⟨#[]⟩⟩=true) (hn : ¬ l.n=60) :
  Calls vx 16 #[aI x l,vw line] w (cK w x l line):=by
 have vJ:(l.n == 60)=false:=beq_false_of_ne hn
 have G:=nF vF
 have hl160:line.size≤1000:=by
  have h1:=(cQ.1 xh).2.1
  have h2:line.size≤160:=h1
  omega
 have DH:f8 x l line=iY x line:=by unfold f8; rw [if_pos vF,if_pos xh,if_neg hn]
 have Eq:fq x l line=qz x line:=by unfold fq; rw [if_pos vF,if_pos xh,if_neg hn]
 have Cz:fL x l line=cp l ⟨line,iY x line⟩:=by unfold fL; rw [if_pos vF,if_pos xh,if_neg hn]
 obtain ⟨R,hR⟩ : ∃ R,iL x line=R:=⟨_,rfl⟩
 have zF:iY x line=sr R:=by rw [← hR]; exact ss x line
 have zi:qz x line=fx x R:=by rw [← hR]; exact su x line
 obtain ⟨rep,An⟩ : ∃ rep,iY x line=rep:=⟨_,rfl⟩
 have BI:rep.size≤200:=by rw [← An,zF]; exact nP R
 obtain ⟨l2,yn⟩ : ∃ l2,cp l ⟨line,rep⟩=l2:=⟨_,rfl⟩
 have cA:=fun W hW=>nB l ⟨line,rep⟩ W hs (jT hl160 dD) (jT BI dD) hW
 rw [An] at DH Cz zF
 rw [yn] at cA Cz
 have ET:=jZ DH
 rw [zi] at Eq
 have EO0:=jZ Eq
 have EL:=jZ Cz
 have HC:=jZ hR
 clear hn DH Eq Cz zi An yn hR
 have L1:=(ah.new w 42 #[F x.TA x.t.length x.tc,F x.OA x.o.length x.oc,O U x.gt,O U x.sd,O U x.ms,vw l.D,vw l.P,O U l.n]).alloc (.cells #[F none 0 0,F none 0 0,O U 0,O U 0,O U 0,vw ⟨#[]⟩,vw ⟨#[]⟩,O U 0] 42)
 have L2:=ah.new1 w (.cells #[F x.TA x.t.length x.tc,F x.OA x.o.length x.oc,O U x.gt,O U x.sd,O U x.ms,vw l.D,vw l.P,O U l.n] 42) 42 #[F none 0 0,F none 0 0,O U 0,O U 0,O U 0,vw ⟨#[]⟩,vw ⟨#[]⟩,O U 0]
 have b1:=bZ w (.cells #[F x.TA x.t.length x.tc,F x.OA x.o.length x.oc,O U x.gt,O U x.sd,O U x.ms,vw l.D,vw l.P,O U l.n] 42)
 have b2:=b1.alloc b1.size (.cells #[F none 0 0,F none 0 0,O U 0,O U 0,O U 0,vw ⟨#[]⟩,vw ⟨#[]⟩,O U 0] 42)
 have hW:=h.up b2 nR
 have we:w.heap.size≤w.heap.size+1:=oM
 clear b1 h
 go_enter Tryz.func16,Tryz.ntmps16
 go_wp2_with fail
 generalize ((w.alloc (.cells #[F x.TA x.t.length x.tc,F x.OA x.o.length x.oc,O U x.gt,O U x.sd,O U x.ms,vw l.D,vw l.P,O U l.n] 42)).alloc (.cells #[F none 0 0,F none 0 0,O U 0,O U 0,O U 0,vw ⟨#[]⟩,vw ⟨#[]⟩,O U 0] 42))=W at L1 L2 b2 hW ⊢
 refine (dA x l W hW hs (yY.then b2).tab).mono ?_
 rintro e W3 ⟨rfl,vQ⟩
 have K1:=L1.below vQ L1.lt
 have K2:=L2.below vQ L2.lt
 have b5:=b2.trans (vQ.mono b2.size)
 have wE:=hW.then vQ
 clear vQ L1 L2 b2 hW
 rw [vF]
 go_wp2_with fail
 refine (fi ⟨line,⟨#[]⟩⟩ W3 (jT yF dD) (show (0:Nat)≤1000000000 by omega)).mono ?_
 rintro e W4 ⟨rfl,vN⟩
 have N1:=K1.below vN K1.lt
 have N2:=K2.below vN K2.lt
 have b6:=b5.trans (vN.mono b5.size)
 have wP:=wE.then vN
 clear vN K1 K2 b5 wE
 rw [xh]
 obtain ⟨c0,c1,c2,c3,c4,c5,c6,c7⟩:=cells8 N1
 go_wp2_with fail
 refine (fA x l w.heap.size W4 N1 wP tl ol).mono ?_
 rintro e W5 ⟨v,rfl,⟨TA,tc,OA,oc,rfl,yG,yH⟩,hb5⟩
 clear c0 c1 c2 c3 c4 c5 c6 c7
 go_upto_region 8 with fail
 have vE:=(Below.refl W5.heap.size W5).alloc nR (.cells #[F TA x.c.t.length tc,F OA x.c.o.length oc,O U x.c.gt,O U x.c.sd,O U x.c.ms,vw l.D,vw l.P,O U l.n] 42)
 have wk:=av hb5 vE
 have J1:=N1.below wk N1.lt
 have J2:=N2.below wk N2.lt
 have J6:=ah.new W5 42 #[F TA x.c.t.length tc,F OA x.c.o.length oc,O U x.c.gt,O U x.c.sd,O U x.c.ms,vw l.D,vw l.P,O U l.n]
 have b7:=b6.trans (wk.mono b6.size)
 have xl:=ai (ac yG vE) b6.size
 have xm:=ai (ac yH vE) b6.size
 have hg26:w.heap.size+1 < W5.heap.size:=jL N2.lt hb5.size
 clear vE wk hb5 yG yH N1 N2 b6 wP
 generalize W5.alloc (.cells #[F TA x.c.t.length tc,F OA x.c.o.length oc,O U x.c.gt,O U x.c.sd,O U x.c.ms,vw l.D,vw l.P,O U l.n] 42)=W6 at J1 J2 J6 b7 xl xm ⊢
 generalize W5.heap.size=g6 at J6 hg26 ⊢
 have xL:w.heap.size≤g6:=oM
 have CA:(x.c.at TA tc OA oc).c=x.c:=rfl
 have wo:=qL (x.c.at TA tc OA oc) l line g6 w W6 J6 xL b7 xl xm (good_c CA G) hl160 yY
 rw [us CA,HC.out] at wo
 go_wp2_with fail
 refine wo.mono ?_
 rintro e W7 hM
 clear wo
 rcases hM with ⟨rfl,⟨s,rfl⟩,xM⟩ | ⟨z,r,rfl,rfl,yX,xM,Mb,IA⟩
 ·have K1:=J1.below xM J1.lt
  have K2:=J2.below xM J2.lt
  have K6:=J6.below xM J6.lt
  have b8:=b7.trans (xM.mono b7.size)
  have yp:=ac xl xM
  have vU:=ac xm xM
  clear J1 J2 J6 b7 xl xm xM
  have zg:=EO0.out
  change fq x l line=x.c at zg
  change rep=⟨#[63]⟩ at zF
  subst zF
  clear EO0
  obtain ⟨y,hy⟩ : ∃ y,x.c=y:=⟨_,rfl⟩
  rw [hy] at K6 yp vU zg
  have EO:=jZ zg
  clear zg
  obtain ⟨TB,DQ⟩ : ∃ TB,TA=TB:=⟨_,rfl⟩
  obtain ⟨tb,DR⟩ : ∃ tb,tc=tb:=⟨_,rfl⟩
  obtain ⟨OB,DS⟩ : ∃ OB,OA=OB:=⟨_,rfl⟩
  obtain ⟨ob,DT⟩ : ∃ ob,oc=ob:=⟨_,rfl⟩
  rw [DQ,DR,DS,DT] at K6
  rw [DQ,DR] at yp
  rw [DS,DT] at vU
  clear hy DQ DR DS DT CA
  obtain ⟨cod,yI⟩ : ∃ cod,dR l ⟨line,⟨#[63]⟩⟩=cod:=⟨_,rfl⟩
  rw [yI] at cA
  clear yI
  have htW:=(yY.then b8).tab
  obtain ⟨c0,c1,c2,c3,c4,c5,c6,c7⟩:=cells8 K1
  go_wp2_with fail
  refine (cA W7 htW).mono ?_
  rintro e W9 ⟨rfl,hb9⟩
  have Q1:=K1.below hb9 K1.lt
  have Q2:=K2.below hb9 K2.lt
  have Q6:=K6.below hb9 K6.lt
  have b10:=b8.trans (hb9.mono b8.size)
  have yg:=ac yp hb9
  have wZ:=ac vU hb9
  have gr9:W9.grownBy (((W9.setCell ⟨g6,5,none⟩ (vw l2.D)).setCell ⟨g6,6,none⟩ (vw l2.P)).setCell ⟨g6,7,none⟩ (O U l2.n)) (some g6):=ab (g:=g6) (i:=7) (u:=O U l2.n) (ab (g:=g6) (i:=6) (u:=vw l2.P) (ab (g:=g6) (i:=5) (u:=vw l2.D) (World.grownBy.refl W9 (some g6))))
  have zc:=ak yg Q6 ft gr9
  have zd:=ak wZ Q6 fu gr9
  have R2:ah (((W9.setCell ⟨g6,5,none⟩ (vw l2.D)).setCell ⟨g6,6,none⟩ (vw l2.P)).setCell ⟨g6,7,none⟩ (O U l2.n)) (w.heap.size+1) 42 [F none 0 0,F none 0 0,O U 0,O U 0,O U 0,vw ⟨#[]⟩,vw ⟨#[]⟩,O U 0]:=(((Q2).other (p:=⟨g6,5,none⟩) (by simp only; omega) (vw l2.D)).other (p:=⟨g6,6,none⟩) (by simp only; omega) (vw l2.P)).other (p:=⟨g6,7,none⟩) (by simp only; omega) (O U l2.n)
  have R6:ah (((W9.setCell ⟨g6,5,none⟩ (vw l2.D)).setCell ⟨g6,6,none⟩ (vw l2.P)).setCell ⟨g6,7,none⟩ (O U l2.n)) g6 42 [F TB y.t.length tb,F OB y.o.length ob,O U y.gt,O U y.sd,O U y.ms,vw l2.D,vw l2.P,O U l2.n]:=(((Q6).set 5 (vw l2.D)).set 6 (vw l2.P)).set 7 (O U l2.n)
  have b11:=(((b10).setCell (p:=⟨g6,5,none⟩) xL (vw l2.D)).setCell (p:=⟨g6,6,none⟩) xL (vw l2.P)).setCell (p:=⟨g6,7,none⟩) xL (O U l2.n)
  obtain ⟨z0,z1,z2,z3,z4,z5,z6,z7⟩:=cells8 Q6
  obtain ⟨f0,f1,f2,f3,f4,f5,f6,f7⟩:=frz8 Q6
  clear K1 K2 Q1 Q2 hb9 b8 b10 yg wZ yp vU gr9 c0 c1 c2 c3 c4 c5 c6 c7
  go_upto_region 14 with fail
  clear K6 Q6 z0 z1 z2 z3 z4 z5 z6 z7 f0 f1 f2 f3 f4 f5 f6 f7
  generalize (((W9.setCell ⟨g6,5,none⟩ (vw l2.D)).setCell ⟨g6,6,none⟩ (vw l2.P)).setCell ⟨g6,7,none⟩ (O U l2.n))=WB at R2 R6 b11 zc zd ⊢
  obtain ⟨p0,p1,p2,p3,p4,p5,p6,p7⟩:=cells8 R6
  obtain ⟨z0,z1,z2,z3,z4,z5,z6,z7⟩:=cells8 R2
  obtain ⟨f0,f1,f2,f3,f4,f5,f6,f7⟩:=frz8 R2
  obtain ⟨Ax,Ay⟩:=dG (F TB y.t.length tb) (F OB y.o.length ob) (O U y.gt) (O U y.sd) (O U y.ms) (vw l2.D) (vw l2.P) (O U l2.n) R2 zc zd
  have bz:=jZ (eO (g:=w.heap.size+1) (b11) we (F TB y.t.length tb) (F OB y.o.length ob) (O U y.gt) (O U y.sd) (O U y.ms) (vw l2.D) (vw l2.P) (O U l2.n))
  have CB:=jZ Ax
  have CC:=jZ Ay
  clear R2 R6 b11 zc zd Ax Ay
  go_wp2_with fail
  refine bodyPost_ret (v:=.tuple #[.agg #[F TB y.t.length tb,F OB y.o.length ob,O U y.gt,O U y.sd,O U y.ms,vw l2.D,vw l2.P,O U l2.n],vw ⟨#[63]⟩]) (by simp [results,Tryz.results16,go_sem, *]) rfl (cK.mk ET.out EO.out EL.out ⟨TB,tb,OB,ob,rfl,CB.out,CC.out⟩ bz.out)
 ·obtain ⟨TB,tb,OB,ob,K6,yp,vU⟩:=yX
  have K1:=nQ IA J1 oM
  have K2:=nQ IA J2 oM
  have b8:=b7.trans xM
  clear J1 J2 J6 b7 xl xm xM IA
  have zg:=EO0.out
  change fq x l line=z at zg
  change rep=(if 200 < r.size then ⟨#[108,111,110,103]⟩ else r) at zF
  clear EO0
  obtain ⟨y,hy⟩ : ∃ y,z=y:=⟨_,rfl⟩
  rw [hy] at K6 yp vU zg
  have EO:=jZ zg
  clear hy CA zg
  by_cases hlong:200 < r.size
  ·have Io:(200:Int) < (r.size:Int):=oM
   rw [if_pos hlong] at zF
   subst zF
   obtain ⟨cod,yI⟩ : ∃ cod,dR l ⟨line,⟨#[108,111,110,103]⟩⟩=cod:=⟨_,rfl⟩
   rw [yI] at cA
   clear yI
   have htW:=(yY.then b8).tab
   obtain ⟨c0,c1,c2,c3,c4,c5,c6,c7⟩:=cells8 K1
   go_wp2_with fail
   refine (cA W7 htW).mono ?_
   rintro e W9 ⟨rfl,hb9⟩
   have Q1:=K1.below hb9 K1.lt
   have Q2:=K2.below hb9 K2.lt
   have Q6:=K6.below hb9 K6.lt
   have b10:=b8.trans (hb9.mono b8.size)
   have yg:=ac yp hb9
   have wZ:=ac vU hb9
   have gr9:W9.grownBy (((W9.setCell ⟨g6,5,none⟩ (vw l2.D)).setCell ⟨g6,6,none⟩ (vw l2.P)).setCell ⟨g6,7,none⟩ (O U l2.n)) (some g6):=ab (g:=g6) (i:=7) (u:=O U l2.n) (ab (g:=g6) (i:=6) (u:=vw l2.P) (ab (g:=g6) (i:=5) (u:=vw l2.D) (World.grownBy.refl W9 (some g6))))
   have zc:=ak yg Q6 ft gr9
   have zd:=ak wZ Q6 fu gr9
   have R2:ah (((W9.setCell ⟨g6,5,none⟩ (vw l2.D)).setCell ⟨g6,6,none⟩ (vw l2.P)).setCell ⟨g6,7,none⟩ (O U l2.n)) (w.heap.size+1) 42 [F none 0 0,F none 0 0,O U 0,O U 0,O U 0,vw ⟨#[]⟩,vw ⟨#[]⟩,O U 0]:=(((Q2).other (p:=⟨g6,5,none⟩) (by simp only; omega) (vw l2.D)).other (p:=⟨g6,6,none⟩) (by simp only; omega) (vw l2.P)).other (p:=⟨g6,7,none⟩) (by simp only; omega) (O U l2.n)
   have R6:ah (((W9.setCell ⟨g6,5,none⟩ (vw l2.D)).setCell ⟨g6,6,none⟩ (vw l2.P)).setCell ⟨g6,7,none⟩ (O U l2.n)) g6 42 [F TB y.t.length tb,F OB y.o.length ob,O U y.gt,O U y.sd,O U y.ms,vw l2.D,vw l2.P,O U l2.n]:=(((Q6).set 5 (vw l2.D)).set 6 (vw l2.P)).set 7 (O U l2.n)
   have b11:=(((b10).setCell (p:=⟨g6,5,none⟩) xL (vw l2.D)).setCell (p:=⟨g6,6,none⟩) xL (vw l2.P)).setCell (p:=⟨g6,7,none⟩) xL (O U l2.n)
   obtain ⟨z0,z1,z2,z3,z4,z5,z6,z7⟩:=cells8 Q6
   obtain ⟨f0,f1,f2,f3,f4,f5,f6,f7⟩:=frz8 Q6
   clear K1 K2 Q1 Q2 hb9 b8 b10 yg wZ yp vU gr9 c0 c1 c2 c3 c4 c5 c6 c7
   go_upto_region 14 with fail
   clear K6 Q6 z0 z1 z2 z3 z4 z5 z6 z7 f0 f1 f2 f3 f4 f5 f6 f7
   generalize (((W9.setCell ⟨g6,5,none⟩ (vw l2.D)).setCell ⟨g6,6,none⟩ (vw l2.P)).setCell ⟨g6,7,none⟩ (O U l2.n))=WB at R2 R6 b11 zc zd ⊢
   obtain ⟨p0,p1,p2,p3,p4,p5,p6,p7⟩:=cells8 R6
   obtain ⟨z0,z1,z2,z3,z4,z5,z6,z7⟩:=cells8 R2
   obtain ⟨f0,f1,f2,f3,f4,f5,f6,f7⟩:=frz8 R2
   obtain ⟨Ax,Ay⟩:=dG (F TB y.t.length tb) (F OB y.o.length ob) (O U y.gt) (O U y.sd) (O U y.ms) (vw l2.D) (vw l2.P) (O U l2.n) R2 zc zd
   have bz:=jZ (eO (g:=w.heap.size+1) (b11) we (F TB y.t.length tb) (F OB y.o.length ob) (O U y.gt) (O U y.sd) (O U y.ms) (vw l2.D) (vw l2.P) (O U l2.n))
   have CB:=jZ Ax
   have CC:=jZ Ay
   clear R2 R6 b11 zc zd Ax Ay
   go_wp2_with fail
   refine bodyPost_ret (v:=.tuple #[.agg #[F TB y.t.length tb,F OB y.o.length ob,O U y.gt,O U y.sd,O U y.ms,vw l2.D,vw l2.P,O U l2.n],vw ⟨#[108,111,110,103]⟩]) (by simp [results,Tryz.results16,go_sem, *]) rfl (cK.mk ET.out EO.out EL.out ⟨TB,tb,OB,ob,rfl,CB.out,CC.out⟩ bz.out)
  ·have Io : ¬ (200:Int) < (r.size:Int):=oM
   rw [if_neg hlong] at zF
   subst zF
   obtain ⟨cod,yI⟩ : ∃ cod,dR l ⟨line,rep⟩=cod:=⟨_,rfl⟩
   rw [yI] at cA
   clear yI
   have htW:=(yY.then b8).tab
   obtain ⟨c0,c1,c2,c3,c4,c5,c6,c7⟩:=cells8 K1
   go_wp2_with fail
   refine (cA W7 htW).mono ?_
   rintro e W9 ⟨rfl,hb9⟩
   have Q1:=K1.below hb9 K1.lt
   have Q2:=K2.below hb9 K2.lt
   have Q6:=K6.below hb9 K6.lt
   have b10:=b8.trans (hb9.mono b8.size)
   have yg:=ac yp hb9
   have wZ:=ac vU hb9
   have gr9:W9.grownBy (((W9.setCell ⟨g6,5,none⟩ (vw l2.D)).setCell ⟨g6,6,none⟩ (vw l2.P)).setCell ⟨g6,7,none⟩ (O U l2.n)) (some g6):=ab (g:=g6) (i:=7) (u:=O U l2.n) (ab (g:=g6) (i:=6) (u:=vw l2.P) (ab (g:=g6) (i:=5) (u:=vw l2.D) (World.grownBy.refl W9 (some g6))))
   have zc:=ak yg Q6 ft gr9
   have zd:=ak wZ Q6 fu gr9
   have R2:ah (((W9.setCell ⟨g6,5,none⟩ (vw l2.D)).setCell ⟨g6,6,none⟩ (vw l2.P)).setCell ⟨g6,7,none⟩ (O U l2.n)) (w.heap.size+1) 42 [F none 0 0,F none 0 0,O U 0,O U 0,O U 0,vw ⟨#[]⟩,vw ⟨#[]⟩,O U 0]:=(((Q2).other (p:=⟨g6,5,none⟩) (by simp only; omega) (vw l2.D)).other (p:=⟨g6,6,none⟩) (by simp only; omega) (vw l2.P)).other (p:=⟨g6,7,none⟩) (by simp only; omega) (O U l2.n)
   have R6:ah (((W9.setCell ⟨g6,5,none⟩ (vw l2.D)).setCell ⟨g6,6,none⟩ (vw l2.P)).setCell ⟨g6,7,none⟩ (O U l2.n)) g6 42 [F TB y.t.length tb,F OB y.o.length ob,O U y.gt,O U y.sd,O U y.ms,vw l2.D,vw l2.P,O U l2.n]:=(((Q6).set 5 (vw l2.D)).set 6 (vw l2.P)).set 7 (O U l2.n)
   have b11:=(((b10).setCell (p:=⟨g6,5,none⟩) xL (vw l2.D)).setCell (p:=⟨g6,6,none⟩) xL (vw l2.P)).setCell (p:=⟨g6,7,none⟩) xL (O U l2.n)
   obtain ⟨z0,z1,z2,z3,z4,z5,z6,z7⟩:=cells8 Q6
   obtain ⟨f0,f1,f2,f3,f4,f5,f6,f7⟩:=frz8 Q6
   clear K1 K2 Q1 Q2 hb9 b8 b10 yg wZ yp vU gr9 c0 c1 c2 c3 c4 c5 c6 c7
   go_upto_region 14 with fail
   clear K6 Q6 z0 z1 z2 z3 z4 z5 z6 z7 f0 f1 f2 f3 f4 f5 f6 f7
   generalize (((W9.setCell ⟨g6,5,none⟩ (vw l2.D)).setCell ⟨g6,6,none⟩ (vw l2.P)).setCell ⟨g6,7,none⟩ (O U l2.n))=WB at R2 R6 b11 zc zd ⊢
   obtain ⟨p0,p1,p2,p3,p4,p5,p6,p7⟩:=cells8 R6
   obtain ⟨z0,z1,z2,z3,z4,z5,z6,z7⟩:=cells8 R2
   obtain ⟨f0,f1,f2,f3,f4,f5,f6,f7⟩:=frz8 R2
   obtain ⟨Ax,Ay⟩:=dG (F TB y.t.length tb) (F OB y.o.length ob) (O U y.gt) (O U y.sd) (O U y.ms) (vw l2.D) (vw l2.P) (O U l2.n) R2 zc zd
   have bz:=jZ (eO (g:=w.heap.size+1) (b11) we (F TB y.t.length tb) (F OB y.o.length ob) (O U y.gt) (O U y.sd) (O U y.ms) (vw l2.D) (vw l2.P) (O U l2.n))
   have CB:=jZ Ax
   have CC:=jZ Ay
   clear R2 R6 b11 zc zd Ax Ay
   go_wp2_with fail
   refine bodyPost_ret (v:=.tuple #[.agg #[F TB y.t.length tb,F OB y.o.length ob,O U y.gt,O U y.sd,O U y.ms,vw l2.D,vw l2.P,O U l2.n],vw rep]) (by simp [results,Tryz.results16,go_sem, *]) rfl (cK.mk ET.out EO.out EL.out ⟨TB,tb,OB,ob,rfl,CB.out,CC.out⟩ bz.out)
theorem rU (x:aO) (l:Lg) (line:ByteArray) (w:World) (h:aP w w.heap.size x) (tl:x.t.length≤1048576) (ol:x.o.length≤1048576) (hs:l.D.size+l.P.size≤2000000) (yF:line.size≤1048576) (yY:LW w) :
  Calls vx 16 #[aI x l,vw line] w (cK w x l line):=by
 cases vF:dV x l
 ·exact tG x l line w h tl ol hs yF yY vF
 ·cases xh:dq.ok ⟨line,⟨#[]⟩⟩
  ·exact rS x l line w h tl ol hs yF yY vF xh
  ·by_cases hn:l.n=60
   ·exact qM x l line w h tl ol hs yF yY vF xh hn
   ·exact rT x l line w h tl ol hs yF yY vF xh hn
theorem kK {n k:Nat} {c r:List UInt8} (h:eN c r=true):aF (n+1) k (bO k c r) = [((c,r),(bO k c r).length)]:=by
 have hb:cw 10 (bO k c r)=ez (eK k c r):=by unfold bO; exact er (sj h)
 have h1:(10:UInt8) ∈ bO k c r:=by unfold bO; simp
 have hl:(ez (eK k c r)).length+1=(bO k c r).length:=by unfold bO; simp
 rw [cj h1 (by rw [hb]; exact lL ⟨h,rfl⟩),hb,hl,List.drop_eq_nil_of_le nR,du sP]
theorem l8 {c r:List UInt8} (h:eN c r=true):∀ (n k:Nat) (s:List UInt8),ci (aF n k s)=s.length→(aF n k s).length < n →
  aF n k (s++bO (k+(aF n k s).length) c r)=aF n k s++[((c,r),(bO (k+(aF n k s).length) c r).length)]
 | 0,_,_,_,h2=>absurd h2 oM
 | n+1,k,s,h1,h2=>by
  by_cases hs:(10:UInt8) ∈ s
  ·cases hd:dU k (cw 10 s) with
   | none =>
    rw [dz hd] at h1
    have:s = []:=List.eq_nil_of_length_eq_zero (by rw [← h1]; simp [ci])
    rw [this] at hs; cases hs
   | some e =>
    have e1:=cP hs
    have vG:(cw 10 s).length+1≤s.length:=by have:=congrArg List.length e1; simp at this; omega
    have ey:=cj (n:=n) hs hd
    rw [ey,fH] at h1
    rw [ey,List.length_cons] at h2
    have ih:=l8 h n (k+1) (s.drop ((cw 10 s).length+1)) (by rw [List.length_drop]; simp only at h1; omega) oM
    have hk:k+(aF (n+1) k s).length=k+1+(aF n (k+1) (s.drop ((cw 10 s).length+1))).length:=by rw [ey,List.length_cons]; omega
    rw [hk]
    generalize bO (k+1+(aF n (k+1) (s.drop ((cw 10 s).length+1))).length) c r=x at ih ⊢
    have hb:cw 10 (s++x)=cw 10 s:=by
     rw (occs:=[1]) [e1]
     rw [List.append_assoc,List.cons_append]; exact er (fy 10 s)
    rw [cj (by simp [hs]) (by rw [hb]; exact hd),hb,List.drop_append_of_le_length vG,ih,ey]
    rfl
  ·have hn:aF (n+1) k s = []:=du hs
   rw [hn] at h1
   have:s = []:=List.eq_nil_of_length_eq_zero (by rw [← h1]; simp [ci])
   subst this
   rw [hn]
   simp only [List.length_nil,Nat.add_zero,List.nil_append]
   exact kK h
noncomputable def oo (y:Oc) (l:Lg) (t:ByteArray):Oc:=fq y.off l t
noncomputable def lA (y:Oc) (l:Lg) (t:ByteArray):Lg:=fL y.off l t
noncomputable def kL (y:Oc) (l:Lg) (t:ByteArray):ByteArray:=f8 y.off l t
noncomputable def oS (y:Oc) (l:Lg):Bool:=dV y.off l
theorem uN (x:aO) (l:Lg) (t:ByteArray):fq x l t=oo x.c l t:=by cases x; rfl
theorem uO (x:aO) (l:Lg) (t:ByteArray):fL x l t=lA x.c l t:=by cases x; rfl
theorem uP (x:aO) (l:Lg):dV x l=oS x.c l:=by cases x; rfl
theorem uw {l:Lg} {e:dq} (hl:l.ok=true):(cp l e).ok=true:=by
 cases hr:e.ok with
 | false=>rw [(ie (by rw [hl,hr]; rfl)).1]; exact hl
 | true =>
  by_cases hn:l.n=60
  ·rw [(fE (by rw [hl,hr]; rfl) hn).1]; exact hl
  ·obtain ⟨e1, -⟩:=fJ (show (l.ok && e.ok)=true by rw [hl,hr]; rfl) hn
   have hr:eN (bl e.c) (bl e.r)=true:=hr
   obtain ⟨q1,q2,q3⟩:=bY.1 hl
   have Ae:=cF 60 0 (bl l.D++bl l.P)
   have vG:(aF 60 0 (bl l.D++bl l.P)).length < 60:=oM
   have FZ:l.n.toNat=(aF 60 0 (bl l.D++bl l.P)).length:=oM
   have ha:=l8 hr 60 0 (bl l.D++bl l.P) (by rw [q1,List.length_append]) vG
   rw [Nat.zero_add] at ha
   obtain ⟨lb,Au⟩ : ∃ lb:ByteArray,lb=⟨(bO l.n.toNat (bl e.c) (bl e.r)).toArray⟩:=⟨_,rfl⟩
   rw [← Au] at e1
   rw [e1]
   have y7:bl lb=bO (aF 60 0 (bl l.D++bl l.P)).length (bl e.c) (bl e.r):=by rw [Au,bL (bO l.n.toNat (bl e.c) (bl e.r)),FZ]
   clear Au
   have eP:bl (l.P++lb)=bl l.P++bO (aF 60 0 (bl l.D++bl l.P)).length (bl e.c) (bl e.r):=by rw [dk l.P lb,y7]
   generalize zA:bO (aF 60 0 (bl l.D++bl l.P)).length (bl e.c) (bl e.r)=ln at ha eP y7
   have yZ:aF 60 0 (bl l.D++bl (l.P++lb))=aF 60 0 (bl l.D++bl l.P)++[((bl e.c,bl e.r),ln.length)]:=by
    rw [eP,← List.append_assoc]; exact ha
   have hlens:ci (aF 60 0 (bl l.D++bl l.P)++[((bl e.c,bl e.r),ln.length)])=(bl l.D).length+((bl l.P).length+ln.length):=by
    have:ci (aF 60 0 (bl l.D++bl l.P)++[((bl e.c,bl e.r),ln.length)])=ci (aF 60 0 (bl l.D++bl l.P))+ln.length:=by simp [ci]
    omega
   unfold Lg.ok
   rw [bY]
   simp only
   rw [yZ]
   exact ⟨by rw [hlens,eP,List.length_append],q2,by rw [List.length_append,List.length_singleton]; omega⟩
theorem fW {y:Oc} {l:Lg} : oS y l=true ↔ y.good=true∧l.ok=true:=by
 unfold oS dV
 rw [Bool.and_eq_true]
 exact Iff.rfl
theorem pC {y:Oc} {l:Lg} (t:ByteArray) (h:oS y l=true):oS (oo y l t) (lA y l t)=true:=by
 obtain ⟨h1,h2⟩:=fW.1 h
 have h1' : (y.off).c.good=true:=h1
 refine fW.2 ⟨?_, ?_⟩
 ·unfold oo fq
  split
  ·split
   ·split
    ·exact h1
    ·rw [su]; exact oQ h1' t
   ·exact h1
  ·exact h1
 ·unfold lA fL
  split
  ·split
   ·split
    ·exact h2
    ·exact uw h2
   ·exact h2
  ·exact h2
theorem tH {y:Oc} {l:Lg} (h:oS y l=true):y.t.length≤1048576∧y.o.length≤1048576∧l.D.size+l.P.size≤2000000:=by
 obtain ⟨h1,h2⟩:=fW.1 h
 have G:=j9 h1
 have hs:=eX (bY.1 h2).1
 rw [ao,ao] at hs
 omega
end Go.Proofs.YtoeoimhemojdeaaGreatDoor
