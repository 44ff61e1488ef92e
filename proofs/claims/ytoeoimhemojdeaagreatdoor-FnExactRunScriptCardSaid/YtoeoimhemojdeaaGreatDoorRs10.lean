/- Rs10: the texts Append ExecP ExA ExB Wr ExC Big ExO, joined into one file. -/
import Derived.Lib.Join
import Derived.Deep.DeepCutAuto
import Derived.Test.YtoeoimhemojdeaaGreatDoorRs01
import Derived.Test.YtoeoimhemojdeaaGreatDoorRs03
import Derived.Test.YtoeoimhemojdeaaGreatDoorRs04
import Derived.Test.YtoeoimhemojdeaaGreatDoorRs06
import Derived.Test.YtoeoimhemojdeaaGreatDoorRs07
import Derived.Test.YtoeoimhemojdeaaGreatDoorRs08
import Derived.Test.YtoeoimhemojdeaaGreatDoorRs09

set_option linter.unusedVariables false
open Go.Value renaming int → O, slice → F, string → uk
open Go.IntKind renaming i64 → U

namespace Go.Proofs.YtoeoimhemojdeaaGreatDoor
open Go.RowKit
noncomputable def ef (l:Lg) (e:fu):Int:=if l.ok && e.ok then (if l.n=60 then 2 else 0) else 1
noncomputable def fR (l:Lg) (e:fu):Lg:=if l.ok && e.ok then (if l.n=60 then l else ⟨l.D,l.P++⟨(cu l.n.toNat (bl e.c) (bl e.r)).toArray⟩,l.n+1⟩) else l
theorem mI {l:Lg} {e:fu} (h:(l.ok && e.ok)=false):fR l e=l∧ef l e=1:=by unfold fR ef; rw [h]; exact ⟨rfl,rfl⟩
theorem jQ {l:Lg} {e:fu} (h:(l.ok && e.ok)=true) (hn:l.n=60):fR l e=l∧ef l e=2:=by unfold fR ef; rw [h,if_pos rfl,if_pos rfl,if_pos hn,if_pos hn]; exact ⟨rfl,rfl⟩
theorem kZ {l:Lg} {e:fu} (h:(l.ok && e.ok)=true) (hn:l.n ≠ 60):fR l e=⟨l.D,l.P++⟨(cu l.n.toNat (bl e.c) (bl e.r)).toArray⟩,l.n+1⟩∧ef l e=0:=by unfold fR ef; rw [h,if_pos rfl,if_pos rfl,if_neg hn,if_neg hn]; exact ⟨rfl,rfl⟩
set_option maxRecDepth 100000 in
set_option maxHeartbeats 4000000 in
theorem mJ (l:Lg) (e:fu) (w:World) (hs:l.D.size+l.P.size≤2000000) (h1:e.c.size≤1048576) (h2:e.r.size≤1048576) :
  Calls Tryz.prog 48 #[l.val,e.val] w fun en w'=>en=.returned (.tuple #[(fR l e).val,O U (ef l e)])∧Below w.heap.size w w':=by
 obtain ⟨D,P,n⟩:=l
 simp only at hs
 have hoff:=@eV (bl D) (bl P) n
 have hoff2:=dL 60 0 (bl D++bl P)
 have HV1:=Lib.hid (mI (l:=⟨D,P,n⟩) (e:=e))
 have HV2:=Lib.hid (jQ (l:=⟨D,P,n⟩) (e:=e))
 have HV3:=Lib.hid (kZ (l:=⟨D,P,n⟩) (e:=e))
 have HS:=Lib.hid (fun W=>mH ⟨D,P,n⟩ W hs)
 have HG:=Lib.hid (fun W=>fO e W (by omega) (by omega))
 have b1:=(((Below.refl w.heap.size w).alloc (Nat.le_refl _) (.cells #[uk D,uk P,O U n] 27)).alloc (by simp) (.cells #[uk e.c,uk e.r] 62)).alloc (by simp; omega) (.cells #[uk ⟨#[]⟩,uk ⟨#[]⟩,O U 0] 27)
 have L1:=((ah.new w 27 #[uk D,uk P,O U n]).alloc (.cells #[uk e.c,uk e.r] 62)).alloc (.cells #[uk ⟨#[]⟩,uk ⟨#[]⟩,O U 0] 27)
 have E1:=(ah.new (w.alloc (.cells #[uk D,uk P,O U n] 27)) 62 #[uk e.c,uk e.r]).alloc (.cells #[uk ⟨#[]⟩,uk ⟨#[]⟩,O U 0] 27)
 have N1:=ah.new ((w.alloc (.cells #[uk D,uk P,O U n] 27)).alloc (.cells #[uk e.c,uk e.r] 62)) 27 #[uk ⟨#[]⟩,uk ⟨#[]⟩,O U 0]
 have hg1:(w.alloc (.cells #[uk D,uk P,O U n] 27)).heap.size=w.heap.size+1:=by simp
 have hg2:((w.alloc (.cells #[uk D,uk P,O U n] 27)).alloc (.cells #[uk e.c,uk e.r] 62)).heap.size=w.heap.size+2:=by simp
 rw [hg1] at E1
 rw [hg2] at N1
 clear hg1 hg2
 go_enter Tryz.func48,Tryz.ntmps48
 go_wp2_with fail
 generalize ((w.alloc (.cells #[uk D,uk P,O U n] 27)).alloc (.cells #[uk e.c,uk e.r] 62)).alloc (.cells #[uk ⟨#[]⟩,uk ⟨#[]⟩,O U 0] 27)=W at b1 L1 E1 N1 ⊢
 generalize hg:w.heap.size=g at L1 E1 N1 ⊢
 refine (HS.out _).mono ?_
 rintro en w2 ⟨rfl,hb2⟩
 have L2:=L1.below hb2 L1.lt
 have E2:=E1.below hb2 E1.lt
 have N2:=N1.below hb2 N1.lt
 have c20:=L2.cell 0
 have c21:=L2.cell 1
 have c22:=L2.cell 2
 have e20:=E2.cell 0
 have e21:=E2.cell 1
 have n20:=N2.cell 0
 have n21:=N2.cell 1
 have n22:=N2.cell 2
 have f20:=N2.frozen 0
 have f21:=N2.frozen 1
 have f22:=N2.frozen 2
 have hl2:=L2.lt
 have he2:=E2.lt
 have hn2:=N2.lt
 simp only [List.getElem?_cons_zero,List.getElem?_cons_succ] at c20 c21 c22 e20 e21 n20 n21 n22
 have hbb2:Below w.heap.size w w2:=by rw [← hg] at *; exact aq b1 hb2
 cases hok:Lg.ok ⟨D,P,n⟩
 ·have HK:=Lib.hid (HV1.out (by rw [hok]; rfl))
  clear hok hoff hoff2 L1 E1 N1 L2 E2 N2
  go_wp2_with fail
  refine bodyPost_ret (v:=.tuple #[.agg #[uk D,uk P,O U n],O U 1]) (by simp [results,Tryz.results48,go_sem, *]) rfl ⟨by rw [HK.out.1,HK.out.2], ?_⟩
  refine hbb2.trans ?_
  repeat (first | exact Below.refl _ _ | refine Below.alloc ?_ (by simp; omega) _ | refine Below.setCell ?_ (by simp; omega) _)
 ·have hof:=hoff.1 hok
  clear hoff
  obtain ⟨k,hk⟩ : ∃ k:Nat,n=(k:Int):=⟨_,hof.2.2.symm⟩
  have hk60:k≤60:=by have:=hof.2.2; omega
  clear hoff2 hof
  subst hk
  go_wp2_with fail
  refine (HG.out _).mono ?_
  rintro en w3 ⟨rfl,hb3⟩
  clear c20 c21 c22 e20 e21 n20 n21 n22 f20 f21 f22 hl2 he2 hn2
  have L3:=L2.below hb3 L2.lt
  have E3:=E2.below hb3 E2.lt
  have N3:=N2.below hb3 N2.lt
  have c30:=L3.cell 0
  have c31:=L3.cell 1
  have c32:=L3.cell 2
  have e30:=E3.cell 0
  have e31:=E3.cell 1
  have n30:=N3.cell 0
  have n31:=N3.cell 1
  have n32:=N3.cell 2
  have f30:=N3.frozen 0
  have f31:=N3.frozen 1
  have f32:=N3.frozen 2
  have hl3:=L3.lt
  have he3:=E3.lt
  have hn3:=N3.lt
  simp only [List.getElem?_cons_zero,List.getElem?_cons_succ] at c30 c31 c32 e30 e31 n30 n31 n32
  have hbb3:Below w.heap.size w w3:=aq hbb2 hb3
  clear L1 E1 N1 L2 E2 N2
  cases hek:e.ok
  ·have HK:=Lib.hid (HV1.out (by rw [hok,hek]; rfl))
   clear hok hek L3 E3 N3
   go_wp2_with fail
   refine bodyPost_ret (v:=.tuple #[.agg #[uk D,uk P,O U (k:Int)],O U 1]) (by simp [results,Tryz.results48,go_sem, *]) rfl ⟨by rw [HK.out.1,HK.out.2], ?_⟩
   refine hbb3.trans ?_
   repeat (first | exact Below.refl _ _ | refine Below.alloc ?_ (by simp; omega) _ | refine Below.setCell ?_ (by simp; omega) _)
  ·by_cases hfull:k=60
   ·have HK:=Lib.hid (HV2.out (by rw [hok,hek]; rfl) (by simp [hfull]))
    have d1:((k:Int) == 60)=true:=by rw [hfull]; rfl
    clear hok hek L3 E3 N3 hfull
    go_wp2_with fail
    refine bodyPost_ret (v:=.tuple #[.agg #[uk D,uk P,O U (k:Int)],O U 2]) (by simp [results,Tryz.results48,go_sem, *]) rfl ⟨by rw [HK.out.1,HK.out.2], ?_⟩
    refine hbb3.trans ?_
    repeat (first | exact Below.refl _ _ | refine Below.alloc ?_ (by simp; omega) _ | refine Below.setCell ?_ (by simp; omega) _)
   ·have HK:=Lib.hid (HV3.out (by rw [hok,hek]; rfl) (by simp; omega))
    have d1:((k:Int) == 60)=false:=by simp; omega
    obtain ⟨ln,hln⟩ : ∃ ln:ByteArray,ln=⟨(cu k (bl e.c) (bl e.r)).toArray⟩:=⟨_,rfl⟩
    have hlz:ln.size≤100000000:=by rw [hln,← ao,bK]; have:=mc (k:=k) (c:=bl e.c) (r:=bl e.r) hek (by omega); omega
    have HLn:Hid (∀ W,Calls Tryz.prog 90 #[O U (k:Int),e.val] W fun en w'=>en=.returned (uk ln)∧Below W.heap.size W w'):=fun W=>by
     rw [hln]; exact lH k e W (by omega) (by have:=(dt.1 hek).2.1; rw [ao] at this; omega) (by have:=(dt.1 hek).2.2.2.2.2; rw [ao] at this; omega)
    have HK2:Hid (fR ⟨D,P,(k:Int)⟩ e=⟨D,P++ln,(k:Int)+1⟩∧ef ⟨D,P,(k:Int)⟩ e=0):=by
     have h:=HK.out
     rw [Int.toNat_natCast,← hln] at h; exact h
    clear HK hok hek hln hfull HV1 HV2 HV3
    go_wp2_with fail
    have hgw:w.heap.size≤g:=by omega
    refine eB (fun W9=>ah W9 g 27 [uk D,uk P,O U (k:Int)]∧ah W9 (g+1) 62 [uk e.c,uk e.r]∧ah W9 (g+1+1) 27 [uk ⟨#[]⟩,uk ⟨#[]⟩,O U 0]∧Below w.heap.size w W9) (fun _ _=>True) (by kernel_rfl) (by kernel_rfl) (by kernel_rfl) (by kernel_rfl) ⟨L3.below (Below.refl _ _).drew L3.lt,E3.below (Below.refl _ _).drew E3.lt,N3.below (Below.refl _ _).drew N3.lt,hbb3.drew⟩ ?_
    simp only [aw,Act.put,List.setIfInBounds_toArray,List.set_cons_zero,List.set_cons_succ,Nat.zero_add,Nat.reduceAdd]
    clear L3 E3 N3 c30 c31 c32 e30 e31 n30 n31 n32 f30 f31 f32 hl3 he3 hn3
    refine aC (.pointer (some ⟨g,1,none⟩)) (fun vs w9 hC9 hB K9 hK9=>?_) ?_
    ·go_simp
     exact hK9 _ _ rfl hC9 trivial
    refine aC (uk P) (fun vs w9 hC9 hB K9 hK9=>?_) ?_
    ·have hd0:=hB 0 _ (by kernel_rfl) rfl
     simp only [hd0] at hK9 ⊢
     have q1:w9.cell? ⟨g,1,none⟩=some (uk P):=hC9.1.cell 1
     go_simp
     exact hK9 _ _ rfl hC9 trivial
    refine aC (.pointer (some ⟨g,2,none⟩)) (fun vs w9 hC9 hB K9 hK9=>?_) ?_
    ·go_simp
     exact hK9 _ _ rfl hC9 trivial
    refine aC (O U (k:Int)) (fun vs w9 hC9 hB K9 hK9=>?_) ?_
    ·have hd2:=hB 2 _ (by kernel_rfl) rfl
     simp only [hd2] at hK9 ⊢
     have q1:w9.cell? ⟨g,2,none⟩=some (O U (k:Int)):=hC9.1.cell 2
     go_simp
     exact hK9 _ _ rfl hC9 trivial
    refine aC (.agg #[uk e.c,uk e.r]) (fun vs w9 hC9 hB K9 hK9=>?_) ?_
    ·have q0:w9.cell? ⟨g+1,0,none⟩=some (uk e.c):=hC9.2.1.cell 0
     have q1:w9.cell? ⟨g+1,1,none⟩=some (uk e.r):=hC9.2.1.cell 1
     go_simp
     exact hK9 _ _ rfl hC9 trivial
    refine aC (uk ln) (fun vs w9 hC9 hB K9 hK9=>?_) ?_
    ·have hd3:=hB 3 _ (by kernel_rfl) rfl
     have hd4:=hB 4 _ (by kernel_rfl) rfl
     simp only [hd3,hd4] at hK9 ⊢
     go_simp
     refine (HLn.out _).mono ?_
     rintro en w8 ⟨rfl,hb8⟩
     exact hK9 _ _ rfl ⟨hC9.1.below hb8 hC9.1.lt,hC9.2.1.below hb8 hC9.2.1.lt,hC9.2.2.1.below hb8 hC9.2.2.1.lt,hC9.2.2.2.trans (hb8.mono hC9.2.2.2.size)⟩ trivial
    refine aC (uk (P++ln)) (fun vs w9 hC9 hB K9 hK9=>?_) ?_
    ·have hd1:=hB 1 _ (by kernel_rfl) rfl
     have hd5:=hB 5 _ (by kernel_rfl) rfl
     simp only [hd1,hd5] at hK9 ⊢
     go_simp
     (first | (rw [if_neg (by omega)]; go_simp) | skip)
     exact hK9 _ _ rfl hC9 trivial
    refine aC (.pointer (some ⟨g,1,none⟩)) (fun vs w9 hC9 hB K9 hK9=>?_) ?_
    ·go_simp
     exact hK9 _ _ rfl hC9 trivial
    refine fH (fun vs w9 hC9 hB K9 hK9=>?_)
    have hd6:=hB 6 _ rfl
    have hd7:=hB 7 _ rfl
    simp only [hd6,hd7] at hK9 ⊢
    obtain ⟨L9,E9,N9,B9⟩:=hC9
    have c91:=L9.cell 1
    have f91:=L9.frozen 1
    simp only [List.getElem?_cons_zero,List.getElem?_cons_succ] at c91
    go_simp
    refine hK9 _ _ ?_
    have L4:=L9.set 1 (uk (P++ln))
    have E4:=E9.other (p:=⟨g,1,none⟩) (by simp) (uk (P++ln))
    have N4:=N9.other (p:=⟨g,1,none⟩) (by simp; omega) (uk (P++ln))
    have B4:=B9.setCell (p:=⟨g,1,none⟩) hgw (uk (P++ln))
    generalize w9.setCell ⟨g,1,none⟩ (uk (P++ln))=w4 at L4 E4 N4 B4 ⊢
    simp only [List.set_cons_zero,List.set_cons_succ] at L4
    have ff2:=L4.frozen 2
    clear c91 f91 L9 E9 N9 B9 hB hK9
    have c40:=L4.cell 0
    have c41:=L4.cell 1
    have c42:=L4.cell 2
    have e40:=E4.cell 0
    have e41:=E4.cell 1
    have n40:=N4.cell 0
    have n41:=N4.cell 1
    have n42:=N4.cell 2
    have f40:=N4.frozen 0
    have f41:=N4.frozen 1
    have f42:=N4.frozen 2
    have hl4:=L4.lt
    have he4:=E4.lt
    have hn4:=N4.lt
    simp only [List.getElem?_cons_zero,List.getElem?_cons_succ] at c40 c41 c42 e40 e41 n40 n41 n42
    have hlt4:(P++ln).size=P.size+ln.size:=eI _ _
    clear L4 E4 N4
    go_wp2_with fail
    refine bodyPost_ret (v:=.tuple #[.agg #[uk D,uk (P++ln),O U ((k:Int)+1)],O U 0]) (by simp [results,Tryz.results48,go_sem, *]) rfl ⟨by rw [HK2.out.1,HK2.out.2], ?_⟩
    refine B4.trans ?_
    repeat (first | exact Below.refl _ _ | refine Below.alloc ?_ (by simp; omega) _ | refine Below.setCell ?_ (by simp; omega) _)
set_option maxRecDepth 100000 in
set_option maxHeartbeats 4000000 in
theorem mK (l:Lg) (e:fu) (w:World) (hs:l.D.size+l.P.size≤2000000) (h1:e.c.size≤1048576) (h2:e.r.size≤1048576) (ht:iR w) :
  Calls Tryz.prog 53 #[l.val,e.val] w fun en w'=>en=.returned (.tuple #[(fR l e).val,O U (ef l e)])∧Below w.heap.size w w':=by
 obtain ⟨D,P,n⟩:=l
 simp only at hs
 have hoff:=@eV (bl D) (bl P) n
 have hoff2:=dL 60 0 (bl D++bl P)
 have HV1:=Lib.hid (mI (l:=⟨D,P,n⟩) (e:=e))
 have HV2:=Lib.hid (jQ (l:=⟨D,P,n⟩) (e:=e))
 have HV3:=Lib.hid (kZ (l:=⟨D,P,n⟩) (e:=e))
 have HS:=Lib.hid (fun W hW=>kX ⟨D,P,n⟩ W hs hW)
 have HG:=Lib.hid (fun W=>eC e W (by omega) (by omega))
 have b1:=(((Below.refl w.heap.size w).alloc (Nat.le_refl _) (.cells #[uk D,uk P,O U n] 27)).alloc (by simp) (.cells #[uk e.c,uk e.r] 62)).alloc (by simp; omega) (.cells #[uk ⟨#[]⟩,uk ⟨#[]⟩,O U 0] 27)
 have L1:=((ah.new w 27 #[uk D,uk P,O U n]).alloc (.cells #[uk e.c,uk e.r] 62)).alloc (.cells #[uk ⟨#[]⟩,uk ⟨#[]⟩,O U 0] 27)
 have E1:=(ah.new (w.alloc (.cells #[uk D,uk P,O U n] 27)) 62 #[uk e.c,uk e.r]).alloc (.cells #[uk ⟨#[]⟩,uk ⟨#[]⟩,O U 0] 27)
 have N1:=ah.new ((w.alloc (.cells #[uk D,uk P,O U n] 27)).alloc (.cells #[uk e.c,uk e.r] 62)) 27 #[uk ⟨#[]⟩,uk ⟨#[]⟩,O U 0]
 have hg1:(w.alloc (.cells #[uk D,uk P,O U n] 27)).heap.size=w.heap.size+1:=by simp
 have hg2:((w.alloc (.cells #[uk D,uk P,O U n] 27)).alloc (.cells #[uk e.c,uk e.r] 62)).heap.size=w.heap.size+2:=by simp
 rw [hg1] at E1
 rw [hg2] at N1
 have ht1:=ht.then b1
 clear hg1 hg2
 go_enter Tryz.func53,Tryz.ntmps53
 go_wp2_with fail
 generalize ((w.alloc (.cells #[uk D,uk P,O U n] 27)).alloc (.cells #[uk e.c,uk e.r] 62)).alloc (.cells #[uk ⟨#[]⟩,uk ⟨#[]⟩,O U 0] 27)=W at ht1 b1 L1 E1 N1 ⊢
 generalize hg:w.heap.size=g at L1 E1 N1 ⊢
 refine (HS.out _ ht1).mono ?_
 rintro en w2 ⟨rfl,hb2⟩
 have L2:=L1.below hb2 L1.lt
 have E2:=E1.below hb2 E1.lt
 have N2:=N1.below hb2 N1.lt
 have c20:=L2.cell 0
 have c21:=L2.cell 1
 have c22:=L2.cell 2
 have e20:=E2.cell 0
 have e21:=E2.cell 1
 have n20:=N2.cell 0
 have n21:=N2.cell 1
 have n22:=N2.cell 2
 have f20:=N2.frozen 0
 have f21:=N2.frozen 1
 have f22:=N2.frozen 2
 have hl2:=L2.lt
 have he2:=E2.lt
 have hn2:=N2.lt
 simp only [List.getElem?_cons_zero,List.getElem?_cons_succ] at c20 c21 c22 e20 e21 n20 n21 n22
 have hbb2:Below w.heap.size w w2:=by rw [← hg] at *; exact aq b1 hb2
 cases hok:Lg.ok ⟨D,P,n⟩
 ·have HK:=Lib.hid (HV1.out (by rw [hok]; rfl))
  clear hok hoff hoff2 L1 E1 N1 L2 E2 N2
  go_wp2_with fail
  refine bodyPost_ret (v:=.tuple #[.agg #[uk D,uk P,O U n],O U 1]) (by simp [results,Tryz.results53,go_sem, *]) rfl ⟨by rw [HK.out.1,HK.out.2], ?_⟩
  refine hbb2.trans ?_
  repeat (first | exact Below.refl _ _ | refine Below.alloc ?_ (by simp; omega) _ | refine Below.setCell ?_ (by simp; omega) _)
 ·have hof:=hoff.1 hok
  clear hoff
  obtain ⟨k,hk⟩ : ∃ k:Nat,n=(k:Int):=⟨_,hof.2.2.symm⟩
  have hk60:k≤60:=by have:=hof.2.2; omega
  clear hoff2 hof
  subst hk
  go_wp2_with fail
  refine (HG.out _).mono ?_
  rintro en w3 ⟨rfl,hb3⟩
  clear c20 c21 c22 e20 e21 n20 n21 n22 f20 f21 f22 hl2 he2 hn2
  have L3:=L2.below hb3 L2.lt
  have E3:=E2.below hb3 E2.lt
  have N3:=N2.below hb3 N2.lt
  have c30:=L3.cell 0
  have c31:=L3.cell 1
  have c32:=L3.cell 2
  have e30:=E3.cell 0
  have e31:=E3.cell 1
  have n30:=N3.cell 0
  have n31:=N3.cell 1
  have n32:=N3.cell 2
  have f30:=N3.frozen 0
  have f31:=N3.frozen 1
  have f32:=N3.frozen 2
  have hl3:=L3.lt
  have he3:=E3.lt
  have hn3:=N3.lt
  simp only [List.getElem?_cons_zero,List.getElem?_cons_succ] at c30 c31 c32 e30 e31 n30 n31 n32
  have hbb3:Below w.heap.size w w3:=aq hbb2 hb3
  clear L1 E1 N1 L2 E2 N2
  cases hek:e.ok
  ·have HK:=Lib.hid (HV1.out (by rw [hok,hek]; rfl))
   clear hok hek L3 E3 N3
   go_wp2_with fail
   refine bodyPost_ret (v:=.tuple #[.agg #[uk D,uk P,O U (k:Int)],O U 1]) (by simp [results,Tryz.results53,go_sem, *]) rfl ⟨by rw [HK.out.1,HK.out.2], ?_⟩
   refine hbb3.trans ?_
   repeat (first | exact Below.refl _ _ | refine Below.alloc ?_ (by simp; omega) _ | refine Below.setCell ?_ (by simp; omega) _)
  ·by_cases hfull:k=60
   ·have HK:=Lib.hid (HV2.out (by rw [hok,hek]; rfl) (by simp [hfull]))
    have d1:((k:Int) == 60)=true:=by rw [hfull]; rfl
    clear hok hek L3 E3 N3 hfull
    go_wp2_with fail
    refine bodyPost_ret (v:=.tuple #[.agg #[uk D,uk P,O U (k:Int)],O U 2]) (by simp [results,Tryz.results53,go_sem, *]) rfl ⟨by rw [HK.out.1,HK.out.2], ?_⟩
    refine hbb3.trans ?_
    repeat (first | exact Below.refl _ _ | refine Below.alloc ?_ (by simp; omega) _ | refine Below.setCell ?_ (by simp; omega) _)
   ·have HK:=Lib.hid (HV3.out (by rw [hok,hek]; rfl) (by simp; omega))
    have d1:((k:Int) == 60)=false:=by simp; omega
    obtain ⟨ln,hln⟩ : ∃ ln:ByteArray,ln=⟨(cu k (bl e.c) (bl e.r)).toArray⟩:=⟨_,rfl⟩
    have hlz:ln.size≤100000000:=by rw [hln,← ao,bK]; have:=mc (k:=k) (c:=bl e.c) (r:=bl e.r) hek (by omega); omega
    have HLn:Hid (∀ W,iR W→Calls Tryz.prog 100 #[O U (k:Int),e.val] W fun en w'=>en=.returned (uk ln)∧Below W.heap.size W w'):=fun W hW=>by
     rw [hln]; exact kU k e W (by omega) hek hW
    have HK2:Hid (fR ⟨D,P,(k:Int)⟩ e=⟨D,P++ln,(k:Int)+1⟩∧ef ⟨D,P,(k:Int)⟩ e=0):=by
     have h:=HK.out
     rw [Int.toNat_natCast,← hln] at h; exact h
    clear HK hok hek hln hfull HV1 HV2 HV3
    go_wp2_with fail
    have hgw:w.heap.size≤g:=by omega
    refine eB (fun W9=>ah W9 g 27 [uk D,uk P,O U (k:Int)]∧ah W9 (g+1) 62 [uk e.c,uk e.r]∧ah W9 (g+1+1) 27 [uk ⟨#[]⟩,uk ⟨#[]⟩,O U 0]∧Below w.heap.size w W9) (fun _ _=>True) (by kernel_rfl) (by kernel_rfl) (by kernel_rfl) (by kernel_rfl) ⟨L3.below (Below.refl _ _).drew L3.lt,E3.below (Below.refl _ _).drew E3.lt,N3.below (Below.refl _ _).drew N3.lt,hbb3.drew⟩ ?_
    simp only [aw,Act.put,List.setIfInBounds_toArray,List.set_cons_zero,List.set_cons_succ,Nat.zero_add,Nat.reduceAdd]
    clear L3 E3 N3 c30 c31 c32 e30 e31 n30 n31 n32 f30 f31 f32 hl3 he3 hn3
    refine aC (.pointer (some ⟨g,1,none⟩)) (fun vs w9 hC9 hB K9 hK9=>?_) ?_
    ·go_simp
     exact hK9 _ _ rfl hC9 trivial
    refine aC (uk P) (fun vs w9 hC9 hB K9 hK9=>?_) ?_
    ·have hd0:=hB 0 _ (by kernel_rfl) rfl
     simp only [hd0] at hK9 ⊢
     have q1:w9.cell? ⟨g,1,none⟩=some (uk P):=hC9.1.cell 1
     go_simp
     exact hK9 _ _ rfl hC9 trivial
    refine aC (.pointer (some ⟨g,2,none⟩)) (fun vs w9 hC9 hB K9 hK9=>?_) ?_
    ·go_simp
     exact hK9 _ _ rfl hC9 trivial
    refine aC (O U (k:Int)) (fun vs w9 hC9 hB K9 hK9=>?_) ?_
    ·have hd2:=hB 2 _ (by kernel_rfl) rfl
     simp only [hd2] at hK9 ⊢
     have q1:w9.cell? ⟨g,2,none⟩=some (O U (k:Int)):=hC9.1.cell 2
     go_simp
     exact hK9 _ _ rfl hC9 trivial
    refine aC (.agg #[uk e.c,uk e.r]) (fun vs w9 hC9 hB K9 hK9=>?_) ?_
    ·have q0:w9.cell? ⟨g+1,0,none⟩=some (uk e.c):=hC9.2.1.cell 0
     have q1:w9.cell? ⟨g+1,1,none⟩=some (uk e.r):=hC9.2.1.cell 1
     go_simp
     exact hK9 _ _ rfl hC9 trivial
    refine aC (uk ln) (fun vs w9 hC9 hB K9 hK9=>?_) ?_
    ·have hd3:=hB 3 _ (by kernel_rfl) rfl
     have hd4:=hB 4 _ (by kernel_rfl) rfl
     simp only [hd3,hd4] at hK9 ⊢
     go_simp
     refine (HLn.out _ (ht.then hC9.2.2.2)).mono ?_
     rintro en w8 ⟨rfl,hb8⟩
     exact hK9 _ _ rfl ⟨hC9.1.below hb8 hC9.1.lt,hC9.2.1.below hb8 hC9.2.1.lt,hC9.2.2.1.below hb8 hC9.2.2.1.lt,hC9.2.2.2.trans (hb8.mono hC9.2.2.2.size)⟩ trivial
    refine aC (uk (P++ln)) (fun vs w9 hC9 hB K9 hK9=>?_) ?_
    ·have hd1:=hB 1 _ (by kernel_rfl) rfl
     have hd5:=hB 5 _ (by kernel_rfl) rfl
     simp only [hd1,hd5] at hK9 ⊢
     go_simp
     (first | (rw [if_neg (by omega)]; go_simp) | skip)
     exact hK9 _ _ rfl hC9 trivial
    refine aC (.pointer (some ⟨g,1,none⟩)) (fun vs w9 hC9 hB K9 hK9=>?_) ?_
    ·go_simp
     exact hK9 _ _ rfl hC9 trivial
    refine fH (fun vs w9 hC9 hB K9 hK9=>?_)
    have hd6:=hB 6 _ rfl
    have hd7:=hB 7 _ rfl
    simp only [hd6,hd7] at hK9 ⊢
    obtain ⟨L9,E9,N9,B9⟩:=hC9
    have c91:=L9.cell 1
    have f91:=L9.frozen 1
    simp only [List.getElem?_cons_zero,List.getElem?_cons_succ] at c91
    go_simp
    refine hK9 _ _ ?_
    have L4:=L9.set 1 (uk (P++ln))
    have E4:=E9.other (p:=⟨g,1,none⟩) (by simp) (uk (P++ln))
    have N4:=N9.other (p:=⟨g,1,none⟩) (by simp; omega) (uk (P++ln))
    have B4:=B9.setCell (p:=⟨g,1,none⟩) hgw (uk (P++ln))
    generalize w9.setCell ⟨g,1,none⟩ (uk (P++ln))=w4 at L4 E4 N4 B4 ⊢
    simp only [List.set_cons_zero,List.set_cons_succ] at L4
    have ff2:=L4.frozen 2
    clear c91 f91 L9 E9 N9 B9 hB hK9
    have c40:=L4.cell 0
    have c41:=L4.cell 1
    have c42:=L4.cell 2
    have e40:=E4.cell 0
    have e41:=E4.cell 1
    have n40:=N4.cell 0
    have n41:=N4.cell 1
    have n42:=N4.cell 2
    have f40:=N4.frozen 0
    have f41:=N4.frozen 1
    have f42:=N4.frozen 2
    have hl4:=L4.lt
    have he4:=E4.lt
    have hn4:=N4.lt
    simp only [List.getElem?_cons_zero,List.getElem?_cons_succ] at c40 c41 c42 e40 e41 n40 n41 n42
    have hlt4:(P++ln).size=P.size+ln.size:=eI _ _
    clear L4 E4 N4
    go_wp2_with fail
    refine bodyPost_ret (v:=.tuple #[.agg #[uk D,uk (P++ln),O U ((k:Int)+1)],O U 0]) (by simp [results,Tryz.results53,go_sem, *]) rfl ⟨by rw [HK2.out.1,HK2.out.2], ?_⟩
    refine B4.trans ?_
    repeat (first | exact Below.refl _ _ | refine Below.alloc ?_ (by simp; omega) _ | refine Below.setCell ?_ (by simp; omega) _)
noncomputable def dj:List (List UInt8)→Option (List Int)
 | []=>some []
 | t :: l=>match cj t with
  | none=>none
  | some n=>(dj l).map (n :: ·)
theorem nB:∀ {l:List (List UInt8)} {ns:List Int},dj l=some ns→ns.length=l.length
 | [],ns,h=>by simp only [dj,Option.some.injEq] at h; subst h; rfl
 | t :: l,ns,h=>by
  unfold dj at h
  cases hn:cj t with
  | none=>rw [hn] at h; cases h
  | some n =>
   rw [hn] at h
   cases hl:dj l with
   | none=>rw [hl] at h; cases h
   | some ms =>
    rw [hl] at h
    simp only [Option.map_some,Option.some.injEq] at h
    subst h
    simp [nB hl]
noncomputable def fE (acc:List Int) (l:List (List UInt8)):Option (List Int):=(dj l).map (acc++·)
theorem mL (acc:List Int):fE acc []=some acc:=by simp [fE,dj]
theorem lJ (l:List (List UInt8)):fE [] l=dj l:=by
 unfold fE; cases dj l <;> simp
theorem lK {acc:List Int} {l:List (List UInt8)} {k:Nat} (h:k < l.length) (hn:cj l[k]=none):fE acc (l.drop k)=none:=by
 rw [List.drop_eq_getElem_cons h]; unfold fE dj; rw [hn]; rfl
theorem lL {acc:List Int} {l:List (List UInt8)} {k:Nat} {n:Int} (h:k < l.length) (hn:cj l[k]=some n):fE acc (l.drop k)=fE (acc++[n]) (l.drop (k+1)):=by
 rw [List.drop_eq_getElem_cons h]; unfold fE; rw [dj,hn]
 cases dj (l.drop (k+1)) <;> simp
def eZ (l:List Int):ByteArray:=if l.length=0 then ⟨#[110,111,110,101]⟩ else ⟨(Lib.join (l.map Lib.itoa) [32]).toArray⟩
def cJ (x:aL) (s:ByteArray):Option ByteArray :=
 if s=⟨#[105,110]⟩ then some (bv (cc x.t))
 else if s=⟨#[111,117,116]⟩ then some (bv (aS cm x.o))
 else if s=⟨#[103,111,116]⟩ then some (bv x.got)
 else if s=⟨#[115,111,108,100]⟩ then some (bv x.sold)
 else if s=⟨#[109,105,115,115,101,100]⟩ then some (bv x.missed)
 else if s=⟨#[98,117,115,105,101,115,116]⟩ then (if cl x then some (bv (cW x)) else none)
 else none
def lc (x:aL) (n:Int):Option ByteArray:=if al x && bU n 1 999 then some (eZ (bh (al x && bU n 1 999) (aP (fun r:ae=>decide (r.p=n)) ae.k x.o))) else none
def ip (x:aL) (n:Int):Option ByteArray:=if al x && aO x.t n then some (eZ (bh (al x && aO x.t n) (aP (fun r:ae=>decide (r.k=n)) ae.p x.o))) else none
def jI (x:aL) (n:Int):Option ByteArray:=if al x && aO x.t n then some (ed x n) else none
def gC (x:aL) (s:ByteArray) (n:Int):Option ByteArray :=
 if s=⟨#[97,116]⟩ then lc x n
 else if s=⟨#[119,105,116,104]⟩ then ip x n
 else if s=⟨#[116,101,120,116]⟩ then jI x n
 else none
def iM (z:aL) (s:dW):ByteArray:=if s.kind=1 then bv (cc z.t) else if s.kind=4 then bv z.sold else if s.kind=5 then bv z.missed else ed z s.stamp
def cg (s:ByteArray) (a b:Int):Option dW :=
 if s=⟨#[103,101,116]⟩ then some ⟨1,a,0,b⟩
 else if s=⟨#[109,105,115,115]⟩ then some ⟨5,a,b,0⟩
 else none
def cr (s:ByteArray) (a b c:Int):Option dW :=
 if s=⟨#[115,104,111,119]⟩ then some ⟨2,a,b,c⟩
 else if s=⟨#[98,97,99,107]⟩ then some ⟨3,a,b,c⟩
 else if s=⟨#[115,101,108,108]⟩ then some ⟨4,a,b,c⟩
 else if s=⟨#[109,111,118,101]⟩ then some ⟨6,a,b,c⟩
 else none
def Oc.off (y:Oc):aL:=y.at none 0 none 0
def bJ (x:aL) (s:dW):Option (Oc × ByteArray):=(hH x.c s).map fun z=>(z,iM z.off s)
noncomputable def br (x:aL) (w0:ByteArray):List Int→Option (Oc × ByteArray)
 | []=>(cJ x w0).map (x.c,·)
 | [n]=>(gC x w0 n).map (x.c,·)
 | [a,b]=>(cg w0 a b).bind (bJ x)
 | [a,b,c]=>(cr w0 a b c).bind (bJ x)
 | _=>none
def wd (l:List UInt8) (j:Nat):ByteArray:=⟨((aH 32 l).getD j []).toArray⟩
noncomputable def iq (x:aL) (line:ByteArray):Option (Oc × ByteArray):=(dj ((aH 32 (bl line)).drop 1)).bind (br x (wd (bl line) 0))
noncomputable def le (x:aL) (line:ByteArray):ByteArray:=match iq x line with
 | none=>⟨#[63]⟩
 | some r=>if 200 < r.2.size then ⟨#[108,111,110,103]⟩ else r.2
noncomputable def pw (x:aL) (line:ByteArray):Oc:=match iq x line with
 | none=>x.c
 | some r=>r.1
noncomputable def gD (x:aL) (l:Lg) (line:ByteArray):ByteArray :=
 if dK x l then (if fu.ok ⟨line,⟨#[]⟩⟩ then (if l.n=60 then ⟨#[102,117,108,108]⟩ else le x line) else ⟨#[98,97,100]⟩) else ⟨#[110,111]⟩
noncomputable def eJ (x:aL) (l:Lg) (line:ByteArray):Oc :=
 if dK x l then (if fu.ok ⟨line,⟨#[]⟩⟩ then (if l.n=60 then x.c else pw x line) else x.c) else x.c
noncomputable def fS (x:aL) (l:Lg) (line:ByteArray):Lg :=
 if dK x l then (if fu.ok ⟨line,⟨#[]⟩⟩ then (if l.n=60 then l else fR l ⟨line,le x line⟩) else l) else l
theorem tU {l:List UInt8} (h:(aH 32 l).length=1):wd l 0=⟨l.toArray⟩:=by
 obtain ⟨ps,h1,h2⟩:=gj 32 l
 have hp:ps = []:=by rw [h1] at h; simpa using h
 have hf:=h2.1 hp
 unfold wd
 rw [jL hf]; rfl
theorem iN (ts:List ap) (kd n:Int):aO (ai ts kd n) kd=true:=by
 unfold aO ai
 rw [List.any_eq_true]
 split
 ·rename_i hx
  obtain ⟨i,hi⟩:=fD hx
  obtain ⟨h1,h2⟩:=f9 hi
  have e:(au ts kd).toNat=i:=by omega
  rw [e]
  refine ⟨_,List.mem_of_getElem? (i:=i) (by rw [List.getElem?_set_self h1]), ?_⟩
  rw [List.getD_eq_getElem?_getD,List.getElem?_eq_getElem h1]
  exact decide_eq_true h2
 ·exact ⟨⟨kd,n⟩,by simp,decide_eq_true rfl⟩
theorem jR {r r' : Oc} (h:Oc.fin r=some r'):r'=r:=by
 unfold Oc.fin at h
 split at h
 ·injection h with h; exact h.symm
 ·cases h
theorem qs {y r:Oc} {s:dW} (h:ba y s=some r):aO r.t s.stamp=true:=by
 have key : ¬ ¬ 0≤au y.t s.stamp→aO y.t s.stamp=true:=fun h=>by rw [← de]; exact decide_eq_true (by omega)
 unfold ba at h
 split at h
 ·rw [jR h]; exact iN _ _ _
 split at h
 ·cases h
 rename_i hT
 split at h
 ·rw [jR h]; exact iN _ _ _
 split at h
 ·cases h
 split at h
 ·rw [jR h]; exact iN _ _ _
 split at h
 ·split at h
  ·rw [jR h]; exact iN _ _ _
  ·rw [jR h]; exact key hT
 split at h
 ·rw [jR h]; exact key hT
 ·rw [jR h]; exact key hT
theorem fw {y r:Oc} {s:dW} (h:hH y s=some r):r.good=true∧aO r.t s.stamp=true:=by
 unfold hH at h
 split at h
 ·exact ⟨mz h,qs h⟩
 ·cases h
theorem bo.inB {x:aL} (G:bo x):0≤cc x.t∧cc x.t≤1000000:=by
 have h1:=jk x.t 0 G.tall
 have h2:=G.tl
 change 0≤cc x.t∧cc x.t≤_ at h1
 omega
theorem bo.outB {x:aL} (G:bo x) (f:ae→Bool):0≤aS f x.o∧aS f x.o≤1000000:=by
 have h1:=eU f x.t x.o 0 G.oall
 have h2:=G.ol
 change 0≤aS f x.o∧aS f x.o≤_ at h1
 omega
theorem sX {x:aL} : 0≤cW x∧cW x≤1000000:=by
 by_cases h:cl x=true
 ·have:=(sS h).1
  rw [Bool.and_eq_true] at this
  have:=bL.1 this.2
  omega
 ·unfold cW; rw [if_neg h]; omega
theorem bC {s:ByteArray} {l:List UInt8} (h : ¬ s=⟨l.toArray⟩):(s.toList == l)=false:=by
 refine beq_false_of_ne fun e=>h (dQ ?_)
 rw [← e,ByteArray.toList_eq]; rfl
def ch:ByteArray:=⟨#[63]⟩
theorem fK (n:Int) (ok:Bool) (w:World) (h:ok=true→0≤n∧n≤1000000000) :
  Calls Tryz.prog 137 #[O U n,.bool ok] w fun e w'=>e=.returned (uk (if ok then bv n else ch))∧Below w.heap.size w w':=by
 cases ok
 ·go_enter Tryz.func137,Tryz.ntmps137
  go_wp2
  go_ret
  exact ⟨rfl,Below.refl _ _⟩
 ·have HN:=fun W=>cn n W (h rfl).1 (h rfl).2
  go_enter Tryz.func137,Tryz.ntmps137
  go_wp2_with fail
  refine (HN _).mono ?_
  rintro e w1 ⟨rfl,hb⟩
  go_wp2
  go_ret
  exact ⟨rfl,hb⟩
set_option maxHeartbeats 1000000 in
theorem lM (x:aL) (kd:Int) (w:World) (h:aM w w.heap.size x) :
  Calls Tryz.prog 143 #[x.val,O U kd] w fun e w'=>e=.returned (uk ((jI x kd).getD ch))∧Below w.heap.size w w':=by
 have b0:=(Below.refl w.heap.size w).alloc (Nat.le_refl _) (.cells #[F x.TA x.t.length x.tc,F x.OA x.o.length x.oc,O U x.got,O U x.sold,O U x.missed] 40)
 have hc:=fun W hW=>kR x kd W hW
 have HT:Hid ((jI x kd).getD ch=if (al x && aO x.t kd)=true then ed x kd else ch):=by unfold Hid jI; split <;> rfl
 obtain ⟨ok,hok⟩ : ∃ b,(al x && aO x.t kd)=b:=⟨_,rfl⟩
 obtain ⟨tx,htx⟩ : ∃ b,ed x kd=b:=⟨_,rfl⟩
 rw [hok,htx] at hc HT
 clear hok htx
 cases ok
 all_goals
  go_enter Tryz.func143,Tryz.ntmps143
  go_wp2_with fail
  refine (hc _ (h.up b0 (Nat.le_refl _))).mono ?_
  rintro e w1 ⟨rfl,hb⟩
  go_wp2
  go_ret
  exact ⟨by rw [HT.out]; rfl,aq b0 hb⟩
def ir (l:List Int):List UInt8:=Lib.join (l.map Lib.itoa) [32]
theorem rW (n:Int):ir [n]=Lib.itoa n:=by simp [ir,Lib.join_cons,Lib.joinTail]
theorem qt {l:List Int} {k:Nat} (h:k < l.length) (hk:0 < k):ir (l.take (k+1))=ir (l.take k)++[32]++Lib.itoa l[k]:=by
 have hne:l.take k ≠ []:=by
  intro e
  have h3:(l.take k).length=k:=by rw [List.length_take]; omega
  rw [e,List.length_nil] at h3; omega
 obtain ⟨a,t,ht⟩:=List.exists_cons_of_ne_nil hne
 rw [List.take_succ_eq_append_getElem h,ht]
 unfold ir
 simp [Lib.join_cons,Lib.joinTail]
theorem qu {l:List Int} (h:∀ n ∈ l,0≤n∧n≤1000000000):(ir l).length≤l.length * 101:=by
 have h1:∀ (m:List Int),(∀ n ∈ m,0≤n∧n≤1000000000)→(Lib.joinTail [32] (m.map Lib.itoa)).length≤m.length * 101:=by
  intro m
  induction m with
  | nil=>intro _; simp [Lib.joinTail]
  | cons a m ih =>
   intro hm
   have h2:=ih fun n hn=>hm n (List.mem_cons_of_mem _ hn)
   have h3:(⟨(Lib.itoa a).toArray⟩ : ByteArray).size≤100:=cz (hm a List.mem_cons_self).1 (hm a List.mem_cons_self).2
   have h4:(Lib.itoa a).length≤100:=by rw [← bK (Lib.itoa a),ao]; exact h3
   have e:Lib.joinTail [32] ((a :: m).map Lib.itoa) = [32]++Lib.itoa a++Lib.joinTail [32] (m.map Lib.itoa):=by simp [Lib.joinTail]
   rw [e,List.length_append,List.length_append,List.length_cons,List.length_cons,List.length_nil]; omega
 cases l with
 | nil=>simp [ir,Lib.join_nil]
 | cons a l =>
  have h2:=h1 l fun n hn=>h n (List.mem_cons_of_mem _ hn)
  have h3:(⟨(Lib.itoa a).toArray⟩ : ByteArray).size≤100:=cz (h a List.mem_cons_self).1 (h a List.mem_cons_self).2
  have h4:(Lib.itoa a).length≤100:=by rw [← bK (Lib.itoa a),ao]; exact h3
  unfold ir
  rw [List.map_cons,Lib.join_cons,List.length_append,List.length_cons]; omega
theorem qv {l:List Int} (h:0 < l.length):eZ l=⟨(ir l).toArray⟩:=by unfold eZ; rw [if_neg (by omega)]; rfl
set_option maxHeartbeats 2000000 in
theorem lN (A:Option Addr) (c:Nat) (l:List Int) (ok:Bool) (w:World) (h:jA w w.heap.size A l) (hl8:l.length≤8) (hr:∀ n ∈ l,0≤n∧n≤1000000000) :
  Calls Tryz.prog 141 #[F A l.length c,.bool ok] w fun e w'=>e=.returned (uk (if ok then eZ l else ch))∧Below w.heap.size w w':=by
 have hrd:=jA.ints h
 cases ok
 ·go_enter Tryz.func141,Tryz.ntmps141
  go_wp2
  go_ret
  exact ⟨rfl,Below.refl _ _⟩
 ·rcases Nat.eq_zero_or_pos l.length with h0 | h0
  ·have HL:Hid (eZ l=⟨#[110,111,110,101]⟩):=by unfold Hid eZ; rw [if_pos h0]
   have hz:((l.length:Int) == 0)=true:=by simp [h0]
   go_enter Tryz.func141,Tryz.ntmps141
   go_wp2
   go_ret
   exact ⟨by rw [HL.out]; rfl,Below.refl _ _⟩
  ·have hz:((l.length:Int) == 0)=false:=beq_false_of_ne (by omega)
   have hz0:(0:Int) < (l.length:Int):=by omega
   have HL:=Lib.hid (qv h0)
   obtain ⟨b,off,rfl,hb,hcell⟩:=hrd h0
   have c0:∀ p:an w.heap.size w,p.val.cell? ⟨b,off,none⟩=some (O U l[0]):=fun p=>by have:=hcell 0 h0 p; simpa using this
   have c00:w.cell? ⟨b,off,none⟩=some (O U l[0]):=c0 (an.start _ _)
   have n0:=hr _ (List.getElem_mem h0)
   have HRG:=Lib.hid hr; clear hr
   have HN0:=Lib.hid (fun W=>cn l[0] W n0.1 n0.2)
   have H1:Hid ((⟨(ir (l.take 1)).toArray⟩ : ByteArray)=⟨(Lib.itoa l[0]).toArray⟩):=by
    rw [Hid]
    congr 2
    rw [List.take_succ_eq_append_getElem h0,List.take_zero,List.nil_append,rW]
   have HC:=Lib.hid hcell; clear hcell
   obtain ⟨z,hz9⟩ : ∃ z,l[0]=z:=⟨_,rfl⟩
   rw [hz9] at c0 c00 HN0 H1
   clear hz9 n0
   clear hrd
   go_enter Tryz.func141,Tryz.ntmps141
   go_wp2_with fail
   refine (HN0.out _).mono ?_
   rintro e w1 ⟨rfl,hb1⟩
   obtain ⟨q1,rfl⟩ : ∃ q:an w.heap.size w,w1=q.val:=⟨⟨w1,hb1⟩,rfl⟩
   go_wp2_with fail
   go_loopw [5,6] (fun s i wr=>∃ (k:Nat),1≤k∧k≤l.length∧i=O U k∧s=uk ⟨(ir (l.take k)).toArray⟩∧(∃ q:an w.heap.size w,wr=q.val)) (fun _ i _=>l.length - (intOf i).toNat)
   case atStart=>exact ⟨1,Nat.le_refl _,h0,rfl,by rw [H1.out],⟨q1,rfl⟩⟩
   case round =>
    obtain ⟨k,hk1,hk,rfl,rfl,q,rfl⟩:=hrel
    by_cases hlt:k < l.length
    ·have c0:=HC.out k hlt
     have n0:=HRG.out _ (List.getElem_mem hlt)
     have HNX:=Lib.hid (qt hlt (by omega))
     have hsz:(ir (l.take k)).length≤1000:=by
      have h1:=qu (l:=l.take k) (fun n hn=>HRG.out n (List.mem_of_mem_take hn))
      rw [List.length_take] at h1; omega
     obtain ⟨S,hS⟩ : ∃ S:ByteArray,S=⟨(ir (l.take k)).toArray⟩:=⟨_,rfl⟩
     have HS:=Lib.hid hS
     have hSz:S.size≤1000:=by rw [hS]; exact hsz
     rw [← hS]
     clear hS hsz
     obtain ⟨z,hz9⟩ : ∃ z,l[k]=z:=⟨_,rfl⟩
     rw [hz9] at c0 n0 HNX
     clear hz9
     obtain ⟨T,hT⟩ : ∃ T:ByteArray,T=⟨(Lib.itoa z).toArray⟩:=⟨_,rfl⟩
     have hTz:T.size≤100:=by rw [hT]; exact cz n0.1 n0.2
     have NUM:Hid (∀ W:World,Calls Tryz.prog 71 #[O U z] W fun e w'=>e=.returned (uk T)∧Below W.heap.size W w'):=fun W=>by rw [hT]; exact cn z W n0.1 n0.2
     have HT:=Lib.hid hT
     clear hT n0
     have e1:(⟨#[32]⟩ : ByteArray).size=1:=rfl
     have z1:(S++⟨#[32]⟩).size≤1001:=by rw [eI]; omega
     go_wp2_with fail
     refine (NUM.out _).mono ?_
     rintro e w4 ⟨rfl,hb4⟩
     have hb5:Below w.heap.size w w4:=q.below.trans (hb4.mono q.size)
     go_wp2
     go_roundw
     case rel=>exact ⟨k+1,by omega,by omega,by go_num,by
      congr 1
      refine dQ ?_
      rw [HNX.out,dP,dP,HS.out,HT.out,bK,bK,kT],⟨⟨w4,hb5⟩,rfl⟩⟩
     case measure=>simp [intOf]; omega
    ·have ek:k=l.length:=by omega
     subst ek
     rw [List.take_length]
     go_wp2
     go_ret
     exact ⟨by rw [HL.out]; rfl,q.below⟩
set_option maxRecDepth 100000 in
set_option maxHeartbeats 4000000 in
theorem px (x:aL) (s:ByteArray) (w:World) (h:aM w w.heap.size x) (G:bo x) :
  Calls Tryz.prog 86 #[x.val,uk s] w fun e w'=>e=.returned (uk ((cJ x s).getD ch))∧Below w.heap.size w w':=by
 have b0:=(Below.refl w.heap.size w).alloc (Nat.le_refl _) (.cells #[F x.TA x.t.length x.tc,F x.OA x.o.length x.oc,O U x.got,O U x.sold,O U x.missed] 40)
 have hW:=h.up b0 (Nat.le_refl _)
 have L0:=ah.new w 40 #[F x.TA x.t.length x.tc,F x.OA x.o.length x.oc,O U x.got,O U x.sold,O U x.missed]
 have hgd:al x=true:=bj.2 G
 by_cases h0:s=⟨#[105,110]⟩
 ·subst h0
  have HV:Hid ((cJ x ⟨#[105,110]⟩).getD ch=bv (cc x.t)):=by unfold Hid cJ; rw [if_pos rfl]; rfl
  have hc:=fun W hW=>ie x W hW
  rw [hgd] at hc
  simp only [sK,if_true] at hc
  have hn:=fun W=>fK (cc x.t) true W (fun _=>⟨G.inB.1,by have:=G.inB.2; omega⟩)
  go_enter Tryz.func86,Tryz.ntmps86
  go_wp2_with fail
  refine (hc _ hW).mono ?_
  rintro e w1 ⟨rfl,hb1⟩
  go_wp2_with fail
  refine (hn _).mono ?_
  rintro e w2 ⟨rfl,hb2⟩
  go_wp2
  go_ret
  exact ⟨by rw [HV.out]; rfl,aq b0 (aq hb1 hb2)⟩
 have f0:(s.toList == [105,110])=false:=bC h0
 by_cases h1:s=⟨#[111,117,116]⟩
 ·subst h1
  have HV:Hid ((cJ x ⟨#[111,117,116]⟩).getD ch=bv (aS cm x.o)):=by unfold Hid cJ; rw [if_neg (by decide),if_pos rfl]; rfl
  have hc:=fun W hW=>kg x W hW
  rw [hgd] at hc
  simp only [sK,if_true] at hc
  have hn:=fun W=>fK (aS cm x.o) true W (fun _=>⟨(G.outB cm).1,by have:=(G.outB cm).2; omega⟩)
  go_enter Tryz.func86,Tryz.ntmps86
  go_wp2_with fail
  refine (hc _ hW).mono ?_
  rintro e w1 ⟨rfl,hb1⟩
  go_wp2_with fail
  refine (hn _).mono ?_
  rintro e w2 ⟨rfl,hb2⟩
  go_wp2
  go_ret
  exact ⟨by rw [HV.out]; rfl,aq b0 (aq hb1 hb2)⟩
 have f1:(s.toList == [111,117,116])=false:=bC h1
 by_cases h2:s=⟨#[103,111,116]⟩
 ·subst h2
  have HV:Hid ((cJ x ⟨#[103,111,116]⟩).getD ch=bv x.got):=by unfold Hid cJ; rw [if_neg (by decide),if_neg (by decide),if_pos rfl]; rfl
  have hn:=fun W=>cn x.got W G.g.1 (by have:=G.g.2; omega)
  go_enter Tryz.func86,Tryz.ntmps86
  go_wp2_with fail
  refine (hn _).mono ?_
  rintro e w2 ⟨rfl,hb2⟩
  go_wp2
  go_ret
  exact ⟨by rw [HV.out]; rfl,aq b0 hb2⟩
 have f2:(s.toList == [103,111,116])=false:=bC h2
 by_cases h3:s=⟨#[115,111,108,100]⟩
 ·subst h3
  have HV:Hid ((cJ x ⟨#[115,111,108,100]⟩).getD ch=bv x.sold):=by unfold Hid cJ; rw [if_neg (by decide),if_neg (by decide),if_neg (by decide),if_pos rfl]; rfl
  have hn:=fun W=>cn x.sold W G.s.1 (by have:=G.s.2; omega)
  go_enter Tryz.func86,Tryz.ntmps86
  go_wp2_with fail
  refine (hn _).mono ?_
  rintro e w2 ⟨rfl,hb2⟩
  go_wp2
  go_ret
  exact ⟨by rw [HV.out]; rfl,aq b0 hb2⟩
 have f3:(s.toList == [115,111,108,100])=false:=bC h3
 by_cases h4:s=⟨#[109,105,115,115,101,100]⟩
 ·subst h4
  have HV:Hid ((cJ x ⟨#[109,105,115,115,101,100]⟩).getD ch=bv x.missed):=by unfold Hid cJ; rw [if_neg (by decide),if_neg (by decide),if_neg (by decide),if_neg (by decide),if_pos rfl]; rfl
  have hn:=fun W=>cn x.missed W G.m.1 (by have:=G.m.2; omega)
  go_enter Tryz.func86,Tryz.ntmps86
  go_wp2_with fail
  refine (hn _).mono ?_
  rintro e w2 ⟨rfl,hb2⟩
  go_wp2
  go_ret
  exact ⟨by rw [HV.out]; rfl,aq b0 hb2⟩
 have f4:(s.toList == [109,105,115,115,101,100])=false:=bC h4
 by_cases h5:s=⟨#[98,117,115,105,101,115,116]⟩
 ·subst h5
  have HV:Hid ((cJ x ⟨#[98,117,115,105,101,115,116]⟩).getD ch=if cl x then bv (cW x) else ch):=by unfold Hid cJ; rw [if_neg (by decide),if_neg (by decide),if_neg (by decide),if_neg (by decide),if_neg (by decide),if_pos rfl]; split <;> rfl
  have hc:=fun W hW=>iT x W hW
  have hn:=fun W=>fK (cW x) (cl x) W (fun _=>⟨sX.1,by have:=(sX (x:=x)).2; omega⟩)
  obtain ⟨T,hT⟩ : ∃ T,(if cl x=true then bv (cW x) else ch)=T:=⟨_,rfl⟩
  rw [hT] at hn HV
  clear hT
  go_enter Tryz.func86,Tryz.ntmps86
  go_wp2_with fail
  refine (hc _ hW).mono ?_
  rintro e w1 ⟨rfl,hb1⟩
  go_wp2_with fail
  refine (hn _).mono ?_
  rintro e w2 ⟨rfl,hb2⟩
  go_wp2
  go_ret
  exact ⟨by rw [HV.out]; rfl,aq b0 (aq hb1 hb2)⟩
 have f5:(s.toList == [98,117,115,105,101,115,116])=false:=bC h5
 have HV:Hid ((cJ x s).getD ch=ch):=by unfold Hid cJ; rw [if_neg h0,if_neg h1,if_neg h2,if_neg h3,if_neg h4,if_neg h5]; rfl
 clear h0 h1 h2 h3 h4 h5
 go_enter Tryz.func86,Tryz.ntmps86
 go_wp2
 go_ret
 exact ⟨by rw [HV.out]; rfl,b0⟩
theorem py {x:aL} (G:bo x) (n:Int) (b:Bool):(bh b (aP (fun r:ae=>decide (r.p=n)) ae.k x.o)).length≤8∧∀ m ∈ bh b (aP (fun r:ae=>decide (r.p=n)) ae.k x.o),0≤m∧m≤1000000000:=by
 cases b
 ·exact ⟨by simp [bh],by simp [bh]⟩
 ·refine ⟨Nat.le_trans (kQ _ _ _) G.ol,fun m hm=>?_⟩
  obtain ⟨r,hr,_,rfl⟩:=eX.1 (show m ∈ aP _ _ _ from hm)
  obtain ⟨j,hj,e⟩:=List.getElem_of_mem hr
  have h1:=ei G.tall (ae.bounds (G.oall j hj)).1
  rw [e] at h1; omega
theorem mM {x:aL} (G:bo x) (n:Int) (b:Bool):(bh b (aP (fun r:ae=>decide (r.k=n)) ae.p x.o)).length≤8∧∀ m ∈ bh b (aP (fun r:ae=>decide (r.k=n)) ae.p x.o),0≤m∧m≤1000000000:=by
 cases b
 ·exact ⟨by simp [bh],by simp [bh]⟩
 ·refine ⟨Nat.le_trans (kQ _ _ _) G.ol,fun m hm=>?_⟩
  obtain ⟨r,hr,_,rfl⟩:=eX.1 (show m ∈ aP _ _ _ from hm)
  obtain ⟨j,hj,e⟩:=List.getElem_of_mem hr
  have h1:=(ae.bounds (G.oall j hj)).2.1
  rw [e] at h1; omega
theorem t8 {w0 w:World} {B g:Nat} (b:Below B w0 w) (hB:B≤g) (a0 a1 a2 a3:Value):Below B w0 ((((w.setCell ⟨g,0,none⟩ a0).setCell ⟨g,1,none⟩ a1).setCell ⟨g,2,none⟩ a2).setCell ⟨g,3,none⟩ a3):=((((b).setCell (p:=⟨g,0,none⟩) hB a0).setCell (p:=⟨g,1,none⟩) hB a1).setCell (p:=⟨g,2,none⟩) hB a2).setCell (p:=⟨g,3,none⟩) hB a3
theorem uj {w:World} {g:Nat} {t:TypeId} {x0 x1 x2 x3:Value} {r:List Value} (hL:ah w g t (x0 :: x1 :: x2 :: x3 :: r)) (a0 a1 a2 a3:Value):ah ((((w.setCell ⟨g,0,none⟩ a0).setCell ⟨g,1,none⟩ a1).setCell ⟨g,2,none⟩ a2).setCell ⟨g,3,none⟩ a3) g t (a0 :: a1 :: a2 :: a3 :: r):=((((hL).set 0 a0).set 1 a1).set 2 a2).set 3 a3
theorem rX {w:World} {g:Nat} {t:TypeId} {x0 x1 x2 x3 x4:Value} {r:List Value} (hL:ah w g t (x0 :: x1 :: x2 :: x3 :: x4 :: r)) (a0 a1 a2 a3 a4:Value):ah (((((w.setCell ⟨g,0,none⟩ a0).setCell ⟨g,1,none⟩ a1).setCell ⟨g,2,none⟩ a2).setCell ⟨g,3,none⟩ a3).setCell ⟨g,4,none⟩ a4) g t (a0 :: a1 :: a2 :: a3 :: a4 :: r):=(((((hL).set 0 a0).set 1 a1).set 2 a2).set 3 a3).set 4 a4
theorem dY {w0 w:World} {B g:Nat} (b:Below B w0 w) (hB:B≤g) (a0 a1 a2 a3 a4 a5 a6 a7:Value):Below B w0 ((((((((w.setCell ⟨g,0,none⟩ a0).setCell ⟨g,1,none⟩ a1).setCell ⟨g,2,none⟩ a2).setCell ⟨g,3,none⟩ a3).setCell ⟨g,4,none⟩ a4).setCell ⟨g,5,none⟩ a5).setCell ⟨g,6,none⟩ a6).setCell ⟨g,7,none⟩ a7):=((((((((b).setCell (p:=⟨g,0,none⟩) hB a0).setCell (p:=⟨g,1,none⟩) hB a1).setCell (p:=⟨g,2,none⟩) hB a2).setCell (p:=⟨g,3,none⟩) hB a3).setCell (p:=⟨g,4,none⟩) hB a4).setCell (p:=⟨g,5,none⟩) hB a5).setCell (p:=⟨g,6,none⟩) hB a6).setCell (p:=⟨g,7,none⟩) hB a7
theorem oo {w:World} {g:Nat} {t:TypeId} {x0 x1 x2 x3 x4 x5 x6 x7:Value} {r:List Value} (hL:ah w g t (x0 :: x1 :: x2 :: x3 :: x4 :: x5 :: x6 :: x7 :: r)) (a0 a1 a2 a3 a4 a5 a6 a7:Value):ah ((((((((w.setCell ⟨g,0,none⟩ a0).setCell ⟨g,1,none⟩ a1).setCell ⟨g,2,none⟩ a2).setCell ⟨g,3,none⟩ a3).setCell ⟨g,4,none⟩ a4).setCell ⟨g,5,none⟩ a5).setCell ⟨g,6,none⟩ a6).setCell ⟨g,7,none⟩ a7) g t (a0 :: a1 :: a2 :: a3 :: a4 :: a5 :: a6 :: a7 :: r):=((((((((hL).set 0 a0).set 1 a1).set 2 a2).set 3 a3).set 4 a4).set 5 a5).set 6 a6).set 7 a7
set_option maxRecDepth 100000 in
set_option maxHeartbeats 4000000 in
theorem qw (x:aL) (l:Lg) (s:ByteArray) (n:Int) (w:World) (h:aM w w.heap.size x) (G:bo x) :
  Calls Tryz.prog 87 #[aD x l,uk s,O U n] w fun e w'=>e=.returned (.tuple #[aD x l,uk ((gC x s n).getD ch)])∧Below w.heap.size w w':=by
 have L1:=(ah.new w 42 #[F x.TA x.t.length x.tc,F x.OA x.o.length x.oc,O U x.got,O U x.sold,O U x.missed,uk l.D,uk l.P,O U l.n]).alloc (.cells #[F none 0 0,F none 0 0,O U 0,O U 0,O U 0,uk ⟨#[]⟩,uk ⟨#[]⟩,O U 0] 42)
 have L2:=ah.new1 w (.cells #[F x.TA x.t.length x.tc,F x.OA x.o.length x.oc,O U x.got,O U x.sold,O U x.missed,uk l.D,uk l.P,O U l.n] 42) 42 #[F none 0 0,F none 0 0,O U 0,O U 0,O U 0,uk ⟨#[]⟩,uk ⟨#[]⟩,O U 0]
 have b1:=(Below.refl w.heap.size w).alloc (Nat.le_refl _) (.cells #[F x.TA x.t.length x.tc,F x.OA x.o.length x.oc,O U x.got,O U x.sold,O U x.missed,uk l.D,uk l.P,O U l.n] 42)
 have b2:=b1.alloc b1.size (.cells #[F none 0 0,F none 0 0,O U 0,O U 0,O U 0,uk ⟨#[]⟩,uk ⟨#[]⟩,O U 0] 42)
 have hW:=h.up b2 (Nat.le_refl _)
 have hge:w.heap.size≤w.heap.size+1:=by omega
 clear b1 h
 by_cases h0:s=⟨#[97,116]⟩
 ·subst h0
  have HV:Hid ((gC x ⟨#[97,116]⟩ n).getD ch=(lc x n).getD ch):=by unfold Hid gC; rw [if_pos rfl]
  have BD:=py G n (al x && bU n 1 999)
  have hc:=fun W hW=>lU x n W hW
  have HT:Hid ((lc x n).getD ch=if (al x && bU n 1 999)=true then eZ (bh (al x && bU n 1 999) (aP (fun r:ae=>decide (r.p=n)) ae.k x.o)) else ch):=by unfold Hid lc; split <;> rfl
  obtain ⟨ok,hok⟩ : ∃ b,(al x && bU n 1 999)=b:=⟨_,rfl⟩
  obtain ⟨ns,hns⟩ : ∃ b,bh (al x && bU n 1 999) (aP (fun r:ae=>decide (r.p=n)) ae.k x.o)=b:=⟨_,rfl⟩
  rw [hns] at BD hc HT
  rw [hok] at hc HT
  have hl:=fun W A c hR=>lN A c ns ok W hR BD.1 BD.2
  obtain ⟨T,hT⟩ : ∃ T,(if ok=true then eZ ns else ch)=T:=⟨_,rfl⟩
  rw [hT] at hl HT
  rw [HT.out] at HV
  clear hok hns hT HT BD
  go_enter Tryz.func87,Tryz.ntmps87
  go_wp2_with fail
  generalize ((w.alloc (.cells #[F x.TA x.t.length x.tc,F x.OA x.o.length x.oc,O U x.got,O U x.sold,O U x.missed,uk l.D,uk l.P,O U l.n] 42)).alloc (.cells #[F none 0 0,F none 0 0,O U 0,O U 0,O U 0,uk ⟨#[]⟩,uk ⟨#[]⟩,O U 0] 42))=W at L1 L2 b2 hW ⊢
  refine (hc _ hW).mono ?_
  rintro e W1 ⟨A',c',rfl,hO,hb⟩
  have hR1:=hO.reads
  have K1:=L1.below hb L1.lt
  have K2:=L2.below hb L2.lt
  have b3:=aq b2 hb
  clear hO L1 L2
  go_wp2_with fail
  refine am (Sw 4 (fun W9=>Below W1.heap.size W1 W9) (fun W9=>Below w.heap.size w W9∧ah W9 (w.heap.size+1) 42 [F x.TA x.t.length x.tc,F x.OA x.o.length x.oc,O U x.got,O U x.sold,O U x.missed,uk l.D,uk l.P,O U l.n])) (fun i w1 w2=>i ∉ [4]→Below w1.heap.size w1 w2) (by kernel_rfl) (by kernel_rfl) (by kernel_rfl) (Sw.start (Below.refl _ _).drew) ?_
  simp only [aw,Act.put,List.setIfInBounds_toArray,List.set_cons_zero,List.set_cons_succ,Nat.zero_add,Nat.reduceAdd]
  apply aa
  case h1 =>
   intro vs L9 w9 hG9 hC9 hB K9 hK9
   replace hC9:=sb hC9 hG9
   have q0:w9.cell? ⟨w.heap.size,0,none⟩=some (F x.TA x.t.length x.tc):=(K1.below hC9 K1.lt).cell 0
   have q1:w9.cell? ⟨w.heap.size,1,none⟩=some (F x.OA x.o.length x.oc):=(K1.below hC9 K1.lt).cell 1
   have q2:w9.cell? ⟨w.heap.size,2,none⟩=some (O U x.got):=(K1.below hC9 K1.lt).cell 2
   have q3:w9.cell? ⟨w.heap.size,3,none⟩=some (O U x.sold):=(K1.below hC9 K1.lt).cell 3
   have q4:w9.cell? ⟨w.heap.size,4,none⟩=some (O U x.missed):=(K1.below hC9 K1.lt).cell 4
   have q5:w9.cell? ⟨w.heap.size,5,none⟩=some (uk l.D):=(K1.below hC9 K1.lt).cell 5
   have q6:w9.cell? ⟨w.heap.size,6,none⟩=some (uk l.P):=(K1.below hC9 K1.lt).cell 6
   have q7:w9.cell? ⟨w.heap.size,7,none⟩=some (O U l.n):=(K1.below hC9 K1.lt).cell 7
   simp only [Act.put,sA,s0,s1] at hK9
   go_simp
   exact hK9 _ _ rfl (sy hG9 hC9) bR
  apply aa
  case h1 =>
   intro vs L9 w9 hG9 hC9 hB K9 hK9
   replace hC9:=sb hC9 hG9
   simp only [Act.put,sA,s0,s1] at hK9
   go_simp
   exact hK9 _ _ rfl (sy hG9 hC9) bR
  apply aa
  case h1 =>
   intro vs L9 w9 hG9 hC9 hB K9 hK9
   replace hC9:=sb hC9 hG9
   simp only [Act.put,sA,s0,s1] at hK9
   go_simp
   exact hK9 _ _ rfl (sy hG9 hC9) bR
  refine aa (uk T) (fun vs L9 w9 hG9 hC9 hB K9 hK9=>?_) ?_
  next =>
   replace hC9:=sb hC9 hG9
   have d1:=fe hB 1
   have d2:=fe hB 2
   simp only [d1,d2] at hK9 ⊢
   go_simp
   refine (hl w9 A' c' (hR1.then hC9)).mono ?_
   rintro en w8 ⟨rfl,hb8⟩
   exact hK9 _ _ rfl (Sw.stay hG9 (by kernel_rfl) (by decide) (hC9.trans (hb8.mono hC9.size))) (fun _=>hb8)
  refine aa (undef) (fun vs L9 w9 hG9 hC9 hB K9 hK9=>?_) ?_
  next =>
   replace hC9:=hC9.here hG9
   have d0:=fe hB 0
   simp only [d0] at hK9 ⊢
   have Lr:=K2.below hC9 K2.lt
   obtain ⟨z0,z1,z2,z3,z4,z5,z6,z7⟩:=cells8 Lr
   obtain ⟨f0,f1,f2,f3,f4,f5,f6,f7⟩:=frz8 Lr
   have hN8:=Lib.hid (show ah _ (w.heap.size+1) 42 [F x.TA x.t.length x.tc,F x.OA x.o.length x.oc,O U x.got,O U x.sold,O U x.missed,uk l.D,uk l.P,O U l.n] from oo (Lr) (F x.TA x.t.length x.tc) (F x.OA x.o.length x.oc) (O U x.got) (O U x.sold) (O U x.missed) (uk l.D) (uk l.P) (O U l.n))
   have hD8:=Lib.hid (dY (g:=(w.heap.size+1)) ((b3).trans (hC9.mono (b3).size)) hge (F x.TA x.t.length x.tc) (F x.OA x.o.length x.oc) (O U x.got) (O U x.sold) (O U x.missed) (uk l.D) (uk l.P) (O U l.n))
   clear Lr
   go_simp
   exact hK9 _ _ rfl (Sw.turn ⟨hD8.out,hN8.out⟩) (fun hq=>(hq (by decide)).elim)
  apply aa
  case h1 =>
   intro vs L9 w9 hG9 hC9 hB K9 hK9
   replace hC9:=hC9.after hG9 (by kernel_rfl)
   have d3:=fe hB 3
   simp only [d3] at hK9 ⊢
   simp only [Act.put,sA,s0,s1] at hK9
   go_simp
   exact hK9 _ _ rfl (Sw.on hG9 (by kernel_rfl) hC9) bR
  refine ax fun vs L9 w9 hL9 hC9 hB=>?_
  replace hC9:=hC9.done hL9 (by decide)
  have dl:=ag.eq (hB 5 _ rfl rfl (by decide))
  simp only [dl]
  clear hB dl
  obtain ⟨hD,hN⟩:=hC9
  obtain ⟨k0,k1,k2,k3,k4,k5,k6,k7⟩:=cells8 hN
  clear hN
  go_wp2
  refine bodyPost_ret (v:=.tuple #[aD x l,uk T]) (by simp [results,Tryz.results87,go_sem, *]) rfl ⟨by rw [HV.out],hD⟩
 have f0:(s.toList == [97,116])=false:=bC h0
 by_cases h1:s=⟨#[119,105,116,104]⟩
 ·subst h1
  have HV:Hid ((gC x ⟨#[119,105,116,104]⟩ n).getD ch=(ip x n).getD ch):=by unfold Hid gC; rw [if_neg (by decide),if_pos rfl]
  have BD:=mM G n (al x && aO x.t n)
  have hc:=fun W hW=>jx x n W hW
  have HT:Hid ((ip x n).getD ch=if (al x && aO x.t n)=true then eZ (bh (al x && aO x.t n) (aP (fun r:ae=>decide (r.k=n)) ae.p x.o)) else ch):=by unfold Hid ip; split <;> rfl
  obtain ⟨ok,hok⟩ : ∃ b,(al x && aO x.t n)=b:=⟨_,rfl⟩
  obtain ⟨ns,hns⟩ : ∃ b,bh (al x && aO x.t n) (aP (fun r:ae=>decide (r.k=n)) ae.p x.o)=b:=⟨_,rfl⟩
  rw [hns] at BD hc HT
  rw [hok] at hc HT
  have hl:=fun W A c hR=>lN A c ns ok W hR BD.1 BD.2
  obtain ⟨T,hT⟩ : ∃ T,(if ok=true then eZ ns else ch)=T:=⟨_,rfl⟩
  rw [hT] at hl HT
  rw [HT.out] at HV
  clear hok hns hT HT BD
  go_enter Tryz.func87,Tryz.ntmps87
  go_wp2_with fail
  generalize ((w.alloc (.cells #[F x.TA x.t.length x.tc,F x.OA x.o.length x.oc,O U x.got,O U x.sold,O U x.missed,uk l.D,uk l.P,O U l.n] 42)).alloc (.cells #[F none 0 0,F none 0 0,O U 0,O U 0,O U 0,uk ⟨#[]⟩,uk ⟨#[]⟩,O U 0] 42))=W at L1 L2 b2 hW ⊢
  refine (hc _ hW).mono ?_
  rintro e W1 ⟨A',c',rfl,hO,hb⟩
  have hR1:=hO.reads
  have K1:=L1.below hb L1.lt
  have K2:=L2.below hb L2.lt
  have b3:=aq b2 hb
  clear hO L1 L2
  go_wp2_with fail
  refine am (Sw 4 (fun W9=>Below W1.heap.size W1 W9) (fun W9=>Below w.heap.size w W9∧ah W9 (w.heap.size+1) 42 [F x.TA x.t.length x.tc,F x.OA x.o.length x.oc,O U x.got,O U x.sold,O U x.missed,uk l.D,uk l.P,O U l.n])) (fun i w1 w2=>i ∉ [4]→Below w1.heap.size w1 w2) (by kernel_rfl) (by kernel_rfl) (by kernel_rfl) (Sw.start (Below.refl _ _).drew) ?_
  simp only [aw,Act.put,List.setIfInBounds_toArray,List.set_cons_zero,List.set_cons_succ,Nat.zero_add,Nat.reduceAdd]
  apply aa
  case h1 =>
   intro vs L9 w9 hG9 hC9 hB K9 hK9
   replace hC9:=sb hC9 hG9
   have q0:w9.cell? ⟨w.heap.size,0,none⟩=some (F x.TA x.t.length x.tc):=(K1.below hC9 K1.lt).cell 0
   have q1:w9.cell? ⟨w.heap.size,1,none⟩=some (F x.OA x.o.length x.oc):=(K1.below hC9 K1.lt).cell 1
   have q2:w9.cell? ⟨w.heap.size,2,none⟩=some (O U x.got):=(K1.below hC9 K1.lt).cell 2
   have q3:w9.cell? ⟨w.heap.size,3,none⟩=some (O U x.sold):=(K1.below hC9 K1.lt).cell 3
   have q4:w9.cell? ⟨w.heap.size,4,none⟩=some (O U x.missed):=(K1.below hC9 K1.lt).cell 4
   have q5:w9.cell? ⟨w.heap.size,5,none⟩=some (uk l.D):=(K1.below hC9 K1.lt).cell 5
   have q6:w9.cell? ⟨w.heap.size,6,none⟩=some (uk l.P):=(K1.below hC9 K1.lt).cell 6
   have q7:w9.cell? ⟨w.heap.size,7,none⟩=some (O U l.n):=(K1.below hC9 K1.lt).cell 7
   simp only [Act.put,sA,s0,s1] at hK9
   go_simp
   exact hK9 _ _ rfl (sy hG9 hC9) bR
  apply aa
  case h1 =>
   intro vs L9 w9 hG9 hC9 hB K9 hK9
   replace hC9:=sb hC9 hG9
   simp only [Act.put,sA,s0,s1] at hK9
   go_simp
   exact hK9 _ _ rfl (sy hG9 hC9) bR
  apply aa
  case h1 =>
   intro vs L9 w9 hG9 hC9 hB K9 hK9
   replace hC9:=sb hC9 hG9
   simp only [Act.put,sA,s0,s1] at hK9
   go_simp
   exact hK9 _ _ rfl (sy hG9 hC9) bR
  refine aa (uk T) (fun vs L9 w9 hG9 hC9 hB K9 hK9=>?_) ?_
  next =>
   replace hC9:=sb hC9 hG9
   have d1:=fe hB 1
   have d2:=fe hB 2
   simp only [d1,d2] at hK9 ⊢
   go_simp
   refine (hl w9 A' c' (hR1.then hC9)).mono ?_
   rintro en w8 ⟨rfl,hb8⟩
   exact hK9 _ _ rfl (Sw.stay hG9 (by kernel_rfl) (by decide) (hC9.trans (hb8.mono hC9.size))) (fun _=>hb8)
  refine aa (undef) (fun vs L9 w9 hG9 hC9 hB K9 hK9=>?_) ?_
  next =>
   replace hC9:=hC9.here hG9
   have d0:=fe hB 0
   simp only [d0] at hK9 ⊢
   have Lr:=K2.below hC9 K2.lt
   obtain ⟨z0,z1,z2,z3,z4,z5,z6,z7⟩:=cells8 Lr
   obtain ⟨f0,f1,f2,f3,f4,f5,f6,f7⟩:=frz8 Lr
   have hN8:=Lib.hid (show ah _ (w.heap.size+1) 42 [F x.TA x.t.length x.tc,F x.OA x.o.length x.oc,O U x.got,O U x.sold,O U x.missed,uk l.D,uk l.P,O U l.n] from oo (Lr) (F x.TA x.t.length x.tc) (F x.OA x.o.length x.oc) (O U x.got) (O U x.sold) (O U x.missed) (uk l.D) (uk l.P) (O U l.n))
   have hD8:=Lib.hid (dY (g:=(w.heap.size+1)) ((b3).trans (hC9.mono (b3).size)) hge (F x.TA x.t.length x.tc) (F x.OA x.o.length x.oc) (O U x.got) (O U x.sold) (O U x.missed) (uk l.D) (uk l.P) (O U l.n))
   clear Lr
   go_simp
   exact hK9 _ _ rfl (Sw.turn ⟨hD8.out,hN8.out⟩) (fun hq=>(hq (by decide)).elim)
  apply aa
  case h1 =>
   intro vs L9 w9 hG9 hC9 hB K9 hK9
   replace hC9:=hC9.after hG9 (by kernel_rfl)
   have d3:=fe hB 3
   simp only [d3] at hK9 ⊢
   simp only [Act.put,sA,s0,s1] at hK9
   go_simp
   exact hK9 _ _ rfl (Sw.on hG9 (by kernel_rfl) hC9) bR
  refine ax fun vs L9 w9 hL9 hC9 hB=>?_
  replace hC9:=hC9.done hL9 (by decide)
  have dl:=ag.eq (hB 5 _ rfl rfl (by decide))
  simp only [dl]
  clear hB dl
  obtain ⟨hD,hN⟩:=hC9
  obtain ⟨k0,k1,k2,k3,k4,k5,k6,k7⟩:=cells8 hN
  clear hN
  go_wp2
  refine bodyPost_ret (v:=.tuple #[aD x l,uk T]) (by simp [results,Tryz.results87,go_sem, *]) rfl ⟨by rw [HV.out],hD⟩
 have f1:(s.toList == [119,105,116,104])=false:=bC h1
 by_cases h2:s=⟨#[116,101,120,116]⟩
 ·subst h2
  have HV:Hid ((gC x ⟨#[116,101,120,116]⟩ n).getD ch=(jI x n).getD ch):=by unfold Hid gC; rw [if_neg (by decide),if_neg (by decide),if_pos rfl]
  have hc:=fun W hW=>lM x n W hW
  obtain ⟨T,hT⟩ : ∃ T,(jI x n).getD ch=T:=⟨_,rfl⟩
  rw [hT] at hc HV
  clear hT
  go_enter Tryz.func87,Tryz.ntmps87
  go_wp2_with fail
  generalize ((w.alloc (.cells #[F x.TA x.t.length x.tc,F x.OA x.o.length x.oc,O U x.got,O U x.sold,O U x.missed,uk l.D,uk l.P,O U l.n] 42)).alloc (.cells #[F none 0 0,F none 0 0,O U 0,O U 0,O U 0,uk ⟨#[]⟩,uk ⟨#[]⟩,O U 0] 42))=W at L1 L2 b2 hW ⊢
  refine am (Sw 5 (fun W9=>Below W.heap.size W W9) (fun W9=>Below w.heap.size w W9∧ah W9 (w.heap.size+1) 42 [F x.TA x.t.length x.tc,F x.OA x.o.length x.oc,O U x.got,O U x.sold,O U x.missed,uk l.D,uk l.P,O U l.n])) (fun i w1 w2=>i ∉ [5]→Below w1.heap.size w1 w2) (by kernel_rfl) (by kernel_rfl) (by kernel_rfl) (Sw.start (Below.refl _ _).drew) ?_
  simp only [aw,Act.put,List.setIfInBounds_toArray,List.set_cons_zero,List.set_cons_succ,Nat.zero_add,Nat.reduceAdd]
  apply aa
  case h1 =>
   intro vs L9 w9 hG9 hC9 hB K9 hK9
   replace hC9:=sb hC9 hG9
   have q0:w9.cell? ⟨w.heap.size,0,none⟩=some (F x.TA x.t.length x.tc):=(L1.below hC9 L1.lt).cell 0
   have q1:w9.cell? ⟨w.heap.size,1,none⟩=some (F x.OA x.o.length x.oc):=(L1.below hC9 L1.lt).cell 1
   have q2:w9.cell? ⟨w.heap.size,2,none⟩=some (O U x.got):=(L1.below hC9 L1.lt).cell 2
   have q3:w9.cell? ⟨w.heap.size,3,none⟩=some (O U x.sold):=(L1.below hC9 L1.lt).cell 3
   have q4:w9.cell? ⟨w.heap.size,4,none⟩=some (O U x.missed):=(L1.below hC9 L1.lt).cell 4
   have q5:w9.cell? ⟨w.heap.size,5,none⟩=some (uk l.D):=(L1.below hC9 L1.lt).cell 5
   have q6:w9.cell? ⟨w.heap.size,6,none⟩=some (uk l.P):=(L1.below hC9 L1.lt).cell 6
   have q7:w9.cell? ⟨w.heap.size,7,none⟩=some (O U l.n):=(L1.below hC9 L1.lt).cell 7
   simp only [Act.put,sA,s0,s1] at hK9
   go_simp
   exact hK9 _ _ rfl (sy hG9 hC9) bR
  apply aa
  case h1 =>
   intro vs L9 w9 hG9 hC9 hB K9 hK9
   replace hC9:=sb hC9 hG9
   simp only [Act.put,sA,s0,s1] at hK9
   go_simp
   exact hK9 _ _ rfl (sy hG9 hC9) bR
  apply aa
  case h1 =>
   intro vs L9 w9 hG9 hC9 hB K9 hK9
   replace hC9:=sb hC9 hG9
   have d1:=fe hB 1
   simp only [d1] at hK9 ⊢
   have q0:w9.cell? ⟨w.heap.size,0,none⟩=some (F x.TA x.t.length x.tc):=(L1.below hC9 L1.lt).cell 0
   have q1:w9.cell? ⟨w.heap.size,1,none⟩=some (F x.OA x.o.length x.oc):=(L1.below hC9 L1.lt).cell 1
   have q2:w9.cell? ⟨w.heap.size,2,none⟩=some (O U x.got):=(L1.below hC9 L1.lt).cell 2
   have q3:w9.cell? ⟨w.heap.size,3,none⟩=some (O U x.sold):=(L1.below hC9 L1.lt).cell 3
   have q4:w9.cell? ⟨w.heap.size,4,none⟩=some (O U x.missed):=(L1.below hC9 L1.lt).cell 4
   simp only [Act.put,sA,s0,s1] at hK9
   go_simp
   exact hK9 _ _ rfl (sy hG9 hC9) bR
  apply aa
  case h1 =>
   intro vs L9 w9 hG9 hC9 hB K9 hK9
   replace hC9:=sb hC9 hG9
   simp only [Act.put,sA,s0,s1] at hK9
   go_simp
   exact hK9 _ _ rfl (sy hG9 hC9) bR
  refine aa (uk T) (fun vs L9 w9 hG9 hC9 hB K9 hK9=>?_) ?_
  next =>
   replace hC9:=sb hC9 hG9
   have d2:=fe hB 2
   have d3:=fe hB 3
   simp only [d2,d3] at hK9 ⊢
   go_simp
   refine (hc w9 (hW.then hC9)).mono ?_
   rintro en w8 ⟨rfl,hb8⟩
   exact hK9 _ _ rfl (Sw.stay hG9 (by kernel_rfl) (by decide) (hC9.trans (hb8.mono hC9.size))) (fun _=>hb8)
  refine aa (undef) (fun vs L9 w9 hG9 hC9 hB K9 hK9=>?_) ?_
  next =>
   replace hC9:=hC9.here hG9
   have d0:=fe hB 0
   simp only [d0] at hK9 ⊢
   have Lr:=L2.below hC9 L2.lt
   obtain ⟨z0,z1,z2,z3,z4,z5,z6,z7⟩:=cells8 Lr
   obtain ⟨f0,f1,f2,f3,f4,f5,f6,f7⟩:=frz8 Lr
   have hN8:=Lib.hid (show ah _ (w.heap.size+1) 42 [F x.TA x.t.length x.tc,F x.OA x.o.length x.oc,O U x.got,O U x.sold,O U x.missed,uk l.D,uk l.P,O U l.n] from oo (Lr) (F x.TA x.t.length x.tc) (F x.OA x.o.length x.oc) (O U x.got) (O U x.sold) (O U x.missed) (uk l.D) (uk l.P) (O U l.n))
   have hD8:=Lib.hid (dY (g:=(w.heap.size+1)) ((b2).trans (hC9.mono (b2).size)) hge (F x.TA x.t.length x.tc) (F x.OA x.o.length x.oc) (O U x.got) (O U x.sold) (O U x.missed) (uk l.D) (uk l.P) (O U l.n))
   clear Lr
   go_simp
   exact hK9 _ _ rfl (Sw.turn ⟨hD8.out,hN8.out⟩) (fun hq=>(hq (by decide)).elim)
  apply aa
  case h1 =>
   intro vs L9 w9 hG9 hC9 hB K9 hK9
   replace hC9:=hC9.after hG9 (by kernel_rfl)
   have d4:=fe hB 4
   simp only [d4] at hK9 ⊢
   simp only [Act.put,sA,s0,s1] at hK9
   go_simp
   exact hK9 _ _ rfl (Sw.on hG9 (by kernel_rfl) hC9) bR
  refine ax fun vs L9 w9 hL9 hC9 hB=>?_
  replace hC9:=hC9.done hL9 (by decide)
  have dl:=ag.eq (hB 6 _ rfl rfl (by decide))
  simp only [dl]
  clear hB dl
  obtain ⟨hD,hN⟩:=hC9
  obtain ⟨k0,k1,k2,k3,k4,k5,k6,k7⟩:=cells8 hN
  clear hN
  go_wp2
  refine bodyPost_ret (v:=.tuple #[aD x l,uk T]) (by simp [results,Tryz.results87,go_sem, *]) rfl ⟨by rw [HV.out],hD⟩
 have f2:(s.toList == [116,101,120,116])=false:=bC h2
 have HV:Hid ((gC x s n).getD ch=ch):=by unfold Hid gC; rw [if_neg h0,if_neg h1,if_neg h2]; rfl
 clear h0 h1 h2
 go_enter Tryz.func87,Tryz.ntmps87
 go_upto_region 10 with fail
 generalize ((w.alloc (.cells #[F x.TA x.t.length x.tc,F x.OA x.o.length x.oc,O U x.got,O U x.sold,O U x.missed,uk l.D,uk l.P,O U l.n] 42)).alloc (.cells #[F none 0 0,F none 0 0,O U 0,O U 0,O U 0,uk ⟨#[]⟩,uk ⟨#[]⟩,O U 0] 42))=W at L1 L2 b2 hW ⊢
 obtain ⟨c0,c1,c2,c3,c4,c5,c6,c7⟩:=cells8 L1
 obtain ⟨z0,z1,z2,z3,z4,z5,z6,z7⟩:=cells8 L2
 obtain ⟨f0,f1,f2,f3,f4,f5,f6,f7⟩:=frz8 L2
 have bz:=Lib.hid (dY (g:=w.heap.size+1) (b2) hge (F x.TA x.t.length x.tc) (F x.OA x.o.length x.oc) (O U x.got) (O U x.sold) (O U x.missed) (uk l.D) (uk l.P) (O U l.n))
 clear L1 L2 b2 hW
 go_wp2
 refine bodyPost_ret (v:=.tuple #[aD x l,uk ⟨#[63]⟩]) (by simp [results,Tryz.results87,go_sem, *]) rfl ⟨by rw [HV.out]; rfl,bz.out⟩
theorem nd (A:Option Addr) (c:Nat) (l:List ap) (w:World) (h:fk w w.heap.size A l) (hn:l.length≤1048576) :
  Calls Tryz.prog 147 #[F A l.length c] w fun e w'=>∃ A' c',e=.returned (F A' l.length c')∧w'.ownsRow w.heap.size 104 2 (F A' l.length c') l.length (l.flatMap ap.enc)∧Below w.heap.size w w':=by
 rcases A with _ | ad
 ·have h0:l.length=0:=by
   rcases Nat.eq_zero_or_pos l.length with h0 | h0
   ·exact h0
   ·obtain ⟨_,_,h1,_⟩:=h.at_ h0; cases h1
  obtain rfl:l = []:=List.eq_nil_of_length_eq_zero h0
  have hq:=fun W=>Lib.run_eql_slice_nil (P:=Tryz.prog) W 37 104 none 0 c 0 0 Tryz.underlying37
  go_enter Tryz.func147,Tryz.ntmps147
  go_wp2_with fail
  go_ret
  exact ⟨none,0,rfl,⟨by simp,.inl ⟨rfl,rfl⟩⟩,Below.refl _ _⟩
 ·have HO:Hid ((w.alloc (.cells #[] 104)).ownsRow w.heap.size 104 2 (F (some ⟨w.heap.size,0,none⟩) 0 0) 0 []):=cP (ah.new w 104 #[]) (Nat.le_refl _)
  have b1:=(Below.refl w.heap.size w).alloc (Nat.le_refl _) (.cells #[] 104)
  have HR:=Lib.hid (aY.below h b1)
  have hq:=fun W=>Lib.run_eql_slice_nil (P:=Tryz.prog) W 37 104 (some ad) l.length c 0 0 Tryz.underlying37
  go_enter Tryz.func147,Tryz.ntmps147
  go_wp2_with (at_builtin; refine gu rfl _ _ 37 rfl 104 _ 2 16 Tryz.underlying37 dw rfl (by omega) (by omega) w.heap.size _ 0 [] rfl HO w.heap.size (some ad) l.length c (l.flatMap ap.enc) rfl HR dN (by omega) b1.size ?_; intro v' w1 hown _ hb2 _)
  go_ret
  have ho:=hown.out
  rw [Nat.zero_add,List.nil_append] at ho
  obtain ⟨A',c',rfl⟩:=av ho
  exact ⟨A',c',rfl,ho,b1.trans hb2⟩
theorem lY (A:Option Addr) (c:Nat) (l:List ae) (w:World) (h:dS w w.heap.size A l) (hn:l.length≤1048576) :
  Calls Tryz.prog 148 #[F A l.length c] w fun e w'=>∃ A' c',e=.returned (F A' l.length c')∧w'.ownsRow w.heap.size 147 3 (F A' l.length c') l.length (l.flatMap ae.enc)∧Below w.heap.size w w':=by
 rcases A with _ | ad
 ·have h0:l.length=0:=by
   rcases Nat.eq_zero_or_pos l.length with h0 | h0
   ·exact h0
   ·obtain ⟨_,_,h1,_⟩:=h.at_ h0; cases h1
  obtain rfl:l = []:=List.eq_nil_of_length_eq_zero h0
  have hq:=fun W=>Lib.run_eql_slice_nil (P:=Tryz.prog) W 38 147 none 0 c 0 0 Tryz.underlying38
  go_enter Tryz.func148,Tryz.ntmps148
  go_wp2_with fail
  go_ret
  exact ⟨none,0,rfl,⟨by simp,.inl ⟨rfl,rfl⟩⟩,Below.refl _ _⟩
 ·have HO:Hid ((w.alloc (.cells #[] 147)).ownsRow w.heap.size 147 3 (F (some ⟨w.heap.size,0,none⟩) 0 0) 0 []):=cP (ah.new w 147 #[]) (Nat.le_refl _)
  have b1:=(Below.refl w.heap.size w).alloc (Nat.le_refl _) (.cells #[] 147)
  have HR:=Lib.hid (aY.below h b1)
  have hq:=fun W=>Lib.run_eql_slice_nil (P:=Tryz.prog) W 38 147 (some ad) l.length c 0 0 Tryz.underlying38
  go_enter Tryz.func148,Tryz.ntmps148
  go_wp2_with (at_builtin; refine gu rfl _ _ 38 rfl 147 _ 3 24 Tryz.underlying38 dM rfl (by omega) (by omega) w.heap.size _ 0 [] rfl HO w.heap.size (some ad) l.length c (l.flatMap ae.enc) rfl HR ex (by omega) b1.size ?_; intro v' w1 hown _ hb2 _)
  go_ret
  have ho:=hown.out
  rw [Nat.zero_add,List.nil_append] at ho
  obtain ⟨A',c',rfl⟩:=av ho
  exact ⟨A',c',rfl,ho,b1.trans hb2⟩
set_option maxRecDepth 100000 in
set_option maxHeartbeats 4000000 in
theorem mN (x:aL) (g:Nat) (w:World) (h:bX w w.heap.size g x) (tl:x.t.length≤1048576) (ol:x.o.length≤1048576) :
  Calls Tryz.prog 93 #[.pointer (some ⟨g,0,none⟩)] w fun e w'=>∃ TA tc OA oc,e=.returned (aL.val (x.c.at TA tc OA oc))∧w'.ownsRow w.heap.size 104 2 (F TA x.t.length tc) x.t.length (x.t.flatMap ap.enc)∧w'.ownsRow w.heap.size 147 3 (F OA x.o.length oc) x.o.length (x.o.flatMap ae.enc)∧Below w.heap.size w w':=by
 have b1:=(Below.refl w.heap.size w).alloc (Nat.le_refl _) (.cells #[F none 0 0,F none 0 0,O U 0,O U 0,O U 0] 40)
 have L1:=ah.new w 40 #[F none 0 0,F none 0 0,O U 0,O U 0,O U 0]
 have hA:=h.then b1 b1.size
 go_enter Tryz.func93,Tryz.ntmps93
 go_wp2
 generalize w.alloc (.cells #[F none 0 0,F none 0 0,O U 0,O U 0,O U 0] 40)=W at b1 L1 hA ⊢
 have cT:∀ W',Below W.heap.size W W'→Calls Tryz.prog 147 #[F x.TA x.t.length x.tc] W' (fun e w'=>∃ A c,e=.returned (F A x.t.length c)∧w'.ownsRow w.heap.size 104 2 (F A x.t.length c) x.t.length (x.t.flatMap ap.enc)∧Below W'.heap.size W' w'∧Below W.heap.size W w'):=fun W' hb =>
  (nd x.TA x.tc x.t W' (hA.r.up hb (Nat.le_refl _)).ts tl).mono fun e w' ⟨A,c,he,ho,hb'⟩=>⟨A,c,he,af ho (Nat.le_trans b1.size hb.size),hb',aq hb hb'⟩
 have cO:∀ W',Below W.heap.size W W'→Calls Tryz.prog 148 #[F x.OA x.o.length x.oc] W' (fun e w'=>∃ A c,e=.returned (F A x.o.length c)∧w'.ownsRow w.heap.size 147 3 (F A x.o.length c) x.o.length (x.o.flatMap ae.enc)∧Below W'.heap.size W' w'∧Below W.heap.size W w'):=fun W' hb =>
  (lY x.OA x.oc x.o W' (hA.r.up hb (Nat.le_refl _)).os ol).mono fun e w' ⟨A,c,he,ho,hb'⟩=>⟨A,c,he,af ho (Nat.le_trans b1.size hb.size),hb',aq hb hb'⟩
 have HK0:∀ W',Below w.heap.size w W'→(Below w.heap.size w W'∧W'.cell? ⟨g,0,none⟩=some (F x.TA x.t.length x.tc)∧W'.cell? ⟨g,1,none⟩=some (F x.OA x.o.length x.oc)∧W'.cell? ⟨g,2,none⟩=some (O U x.got)∧W'.cell? ⟨g,3,none⟩=some (O U x.sold)∧W'.cell? ⟨g,4,none⟩=some (O U x.missed)):=fun W' hb =>
  ⟨hb,h.s.c0 ⟨W',hb⟩,h.s.c1 ⟨W',hb⟩,h.s.c2 ⟨W',hb⟩,h.s.c3 ⟨W',hb⟩,h.s.c4 ⟨W',hb⟩⟩
 have HK:∀ W',Below W.heap.size W W'→(Below w.heap.size w W'∧W'.cell? ⟨g,0,none⟩=some (F x.TA x.t.length x.tc)∧W'.cell? ⟨g,1,none⟩=some (F x.OA x.o.length x.oc)∧W'.cell? ⟨g,2,none⟩=some (O U x.got)∧W'.cell? ⟨g,3,none⟩=some (O U x.sold)∧W'.cell? ⟨g,4,none⟩=some (O U x.missed)):=fun W' hb=>HK0 W' (b1.trans (hb.mono b1.size))
 have HKs:∀ W' (u0 u1 u2 u3 u4:Value),Below W.heap.size W W'→(Below w.heap.size w (((((W'.setCell ⟨w.heap.size,0,none⟩ u0).setCell ⟨w.heap.size,1,none⟩ u1).setCell ⟨w.heap.size,2,none⟩ u2).setCell ⟨w.heap.size,3,none⟩ u3).setCell ⟨w.heap.size,4,none⟩ u4)∧(((((W'.setCell ⟨w.heap.size,0,none⟩ u0).setCell ⟨w.heap.size,1,none⟩ u1).setCell ⟨w.heap.size,2,none⟩ u2).setCell ⟨w.heap.size,3,none⟩ u3).setCell ⟨w.heap.size,4,none⟩ u4).cell? ⟨g,0,none⟩=some (F x.TA x.t.length x.tc)∧(((((W'.setCell ⟨w.heap.size,0,none⟩ u0).setCell ⟨w.heap.size,1,none⟩ u1).setCell ⟨w.heap.size,2,none⟩ u2).setCell ⟨w.heap.size,3,none⟩ u3).setCell ⟨w.heap.size,4,none⟩ u4).cell? ⟨g,1,none⟩=some (F x.OA x.o.length x.oc)∧(((((W'.setCell ⟨w.heap.size,0,none⟩ u0).setCell ⟨w.heap.size,1,none⟩ u1).setCell ⟨w.heap.size,2,none⟩ u2).setCell ⟨w.heap.size,3,none⟩ u3).setCell ⟨w.heap.size,4,none⟩ u4).cell? ⟨g,2,none⟩=some (O U x.got)∧(((((W'.setCell ⟨w.heap.size,0,none⟩ u0).setCell ⟨w.heap.size,1,none⟩ u1).setCell ⟨w.heap.size,2,none⟩ u2).setCell ⟨w.heap.size,3,none⟩ u3).setCell ⟨w.heap.size,4,none⟩ u4).cell? ⟨g,3,none⟩=some (O U x.sold)∧(((((W'.setCell ⟨w.heap.size,0,none⟩ u0).setCell ⟨w.heap.size,1,none⟩ u1).setCell ⟨w.heap.size,2,none⟩ u2).setCell ⟨w.heap.size,3,none⟩ u3).setCell ⟨w.heap.size,4,none⟩ u4).cell? ⟨g,4,none⟩=some (O U x.missed)):=fun W' u0 u1 u2 u3 u4 hb=>HK0 _ ((b1.trans (hb.mono b1.size)).grown (ab (ab (ab (ab (ab (World.grownBy.refl W' (some w.heap.size))))))) (Nat.le_trans b1.size hb.size) (by rintro _ ⟨⟩; exact Nat.le_refl _))
 have HZ:∀ W',Below W.heap.size W W'→(W'.cell? ⟨w.heap.size,0,none⟩=some (F none 0 0)∧W'.cell? ⟨w.heap.size,1,none⟩=some (F none 0 0)∧W'.cell? ⟨w.heap.size,2,none⟩=some (O U 0)∧W'.cell? ⟨w.heap.size,3,none⟩=some (O U 0)∧W'.cell? ⟨w.heap.size,4,none⟩=some (O U 0) ∧
   W'.frozen? ⟨w.heap.size,0,none⟩=false∧W'.frozen? ⟨w.heap.size,1,none⟩=false∧W'.frozen? ⟨w.heap.size,2,none⟩=false∧W'.frozen? ⟨w.heap.size,3,none⟩=false∧W'.frozen? ⟨w.heap.size,4,none⟩=false):=fun W' hb =>
  have L:=L1.below hb L1.lt
  ⟨L.cell 0,L.cell 1,L.cell 2,L.cell 3,L.cell 4,L.frozen 0,L.frozen 1,L.frozen 2,L.frozen 3,L.frozen 4⟩
 have HL1:=Lib.hid L1; clear L1
 have HB1:=Lib.hid b1; clear b1
 clear hA h
 go_region_held3 (fun W'=>(Below w.heap.size w W'∧W'.cell? ⟨g,0,none⟩=some (F x.TA x.t.length x.tc)∧W'.cell? ⟨g,1,none⟩=some (F x.OA x.o.length x.oc)∧W'.cell? ⟨g,2,none⟩=some (O U x.got)∧W'.cell? ⟨g,3,none⟩=some (O U x.sold)∧W'.cell? ⟨g,4,none⟩=some (O U x.missed))) (first | exact HK _ (Below.refl _ _).drew | exact HK _ hb9 | exact HK _ hb8 | exact HKs _ _ _ _ _ _ hb9 | exact HKs _ _ _ _ _ _ hb8) (first | (go_at_call 147; (first | (refine (cT _ (Below.refl _ _).drew).mono ?_) | (refine (cT _ hb9).mono ?_)); rintro e w8 ⟨A8,c8,rfl,ho8,hk8,hb8⟩; obtain ⟨z0,z1,z2,z3,z4,f0,f1,f2,f3,f4⟩:=HZ _ hb8) | (go_at_call 148; (first | (refine (cO _ (Below.refl _ _).drew).mono ?_) | (refine (cO _ hb8).mono ?_)); rintro e w9 ⟨A9,c9,rfl,ho9,hk9,hb9⟩; obtain ⟨y0,y1,y2,y3,y4,g0,g1,g2,g3,g4⟩:=HZ _ hb9))
 have hL9:ah w9 w.heap.size 40 [F none 0 0,F none 0 0,O U 0,O U 0,O U 0]:=HL1.out.below hb9 HL1.out.lt
 have e0:=(((((hL9.set 0 (F A8 x.t.length c8)).set 1 (F A9 x.o.length c9)).set 2 (O U x.got)).set 3 (O U x.sold)).set 4 (O U x.missed))
 have hgr:=ab (g:=w.heap.size) (i:=4) (u:=O U x.missed) (ab (g:=w.heap.size) (i:=3) (u:=O U x.sold) (ab (g:=w.heap.size) (i:=2) (u:=O U x.got) (ab (g:=w.heap.size) (i:=1) (u:=F A9 x.o.length c9) (ab (g:=w.heap.size) (i:=0) (u:=F A8 x.t.length c8) (World.grownBy.refl w9 (some w.heap.size))))))
 have r8:=aj (ac ho8 hk9) hL9 eE hgr
 have r9:=aj ho9 hL9 ep hgr
 have b9:Below w.heap.size w w9:=HB1.out.trans (hb9.mono HB1.out.size)
 have b10:=b9.grown hgr b9.size (by rintro _ ⟨⟩; exact Nat.le_refl _)
 generalize (((((w9.setCell ⟨w.heap.size,0,none⟩ (F A8 x.t.length c8)).setCell ⟨w.heap.size,1,none⟩ (F A9 x.o.length c9)).setCell ⟨w.heap.size,2,none⟩ (O U x.got)).setCell ⟨w.heap.size,3,none⟩ (O U x.sold)).setCell ⟨w.heap.size,4,none⟩ (O U x.missed))=W10 at e0 hgr r8 r9 b10 ⊢
 simp only [List.set_cons_zero,List.set_cons_succ] at e0
 obtain ⟨k0,k1,k2,k3,k4⟩:=cells5 e0
 have R8:=Lib.hid r8; clear r8
 have R9:=Lib.hid r9; clear r9
 clear z0 z1 z2 z3 z4 f0 f1 f2 f3 f4 y0 y1 y2 y3 y4 g0 g1 g2 g3 g4 ho8 ho9 hgr
 go_wp2
 refine bodyPost_ret (v:=aL.val (x.c.at A8 c8 A9 c9)) (by simp [results,Tryz.results93,go_sem,Oc.at,aL.c, *]) rfl ⟨A8,c8,A9,c9,rfl,R8.out,R9.out,b10⟩
theorem lO {P:Program} {ops:Array Oper} {tm:Array Value} {o:Oper} {a:Act} {w:World} {K:Act→World→Prop} {Q:Exit→Act→World→Prop} {E:Prop}
  (hg:o.guard=none) (s x:Operand) (t:TypeId) (ho:o.op=.call { callee:=.builtin .append,args:=#[s,x],argTypes:=#[t,t] })
  (e:TypeId) (z:Value) (k bytes:Nat) (ht:P.underlying t=some (.slice e)) (hinfo:(P.info? e).map (fun i=>(i.zero,i.size,i.bytes))=some (some z,k,bytes)) (hzs:z.cells.size=k) (hsz:0 < k) (hby:bytes≤1000)
  (B g:Nat) (hs:a.eval s=F (some ⟨g,0,none⟩) 0 0) (hL:ah w g e []) (hB:B≤g)
  (S:Nat) (A:Option Addr) (m c:Nat) (cs:List Value) (hx:a.eval x=F A m c) (hr:aY w S k A m cs) (h1:∀ u ∈ cs,u.oneCell'=true) (hm:m≤1048576)
  (h:∀ v' w',w'.ownsRow B e k v' m cs→Below w.heap.size w w'→K (a.put o.dst v') w'):if Region.wanted o (yielded ops tm)=true then o.wp P a w K Q else E:=by
 have hw:∀ tm:Array Value,Region.wanted o (yielded ops tm)=true:=fun tm=>by simp [Region.wanted,hg]
 rw [if_pos (hw _)]
 obtain ⟨i,hi,hz,hs',hb⟩:=info_parts hinfo
 have hbytes:(0+m) * bytes≤140737488355328:=by have:=Nat.mul_le_mul (show 0+m≤1048576 by omega) hby; omega
 have hlt:=hL.lt
 rcases Nat.eq_zero_or_pos m with h0 | h0
 ·subst h0
  have hc0:cs = []:=List.eq_nil_of_length_eq_zero (by simpa using hr.len)
  subst hc0
  have hown:w.ownsRow B e k (F (some ⟨g,0,none⟩) 0 0) 0 []:=cP hL hB
  have hrun:(Builtin.append_ #[t,t] o.type #[F (some ⟨g,0,none⟩) 0 0,F A 0 c]).run P w=.ok (F (some ⟨g,0,none⟩) 0 0) w:=by
   rcases A with _ | ad
   ·exact gQ w B t o.type e i k ht hi _ 0 [] hown c
   ·simp [Builtin.append_,run_underlying ht,sizeOf,typeInfo,hi,Builtin.lenOf,Builtin.firstCells,loadCells,loadCellsFrom,storeCells]
  unfold Oper.wp execOp
  simp only [ho,resolve,invoke,builtin,Sem.run_bind,Sem.run_pure,Result.andThen_ok,List.map_toArray,List.map_cons,List.map_nil,hs,hx,hrun]
  exact h _ _ hown (Below.refl _ _)
 ·obtain ⟨b,off,rfl,hlt',hcell⟩:=hr.at_ h0
  have key:=step_append_grows (P:=P) (ops:=ops) (a:=a) (w:=w) (K:=K) (Q:=Q) (E:=E) hg s x t ho e i z k bytes ht hi hz hs' hb hzs hsz (some ⟨g,0,none⟩) 0 0 [] hs (by simp) (by simp) (by simp) ⟨b,off,none⟩ m c cs hx hr.len (fun j u hu=>by rw [cd]; exact hcell j u hu) h1 (by omega) (by unfold maxLen; omega) hbytes (fun v' w' h2 h3=>by
   rw [Nat.zero_add,List.nil_append] at h2
   exact h v' w' (af h2 (by omega)) ((Below.refl _ _).grown h3 (Nat.le_refl _) (fun j hj=>by cases hj)))
  rw [if_pos (hw _)] at key
  exact key
set_option maxRecDepth 100000 in
set_option maxHeartbeats 4000000 in
theorem qx (x:aL) (w:World) (h:aM w w.heap.size x) (tl:x.t.length≤1048576) (ol:x.o.length≤1048576) :
  Calls Tryz.prog 81 #[x.val] w (dC w x.c):=by
 have L1:=(ah.new w 40 #[F x.TA x.t.length x.tc,F x.OA x.o.length x.oc,O U x.got,O U x.sold,O U x.missed]).alloc (.cells #[F none 0 0,F none 0 0,O U 0,O U 0,O U 0] 40)
 have L2:=ah.new1 w (.cells #[F x.TA x.t.length x.tc,F x.OA x.o.length x.oc,O U x.got,O U x.sold,O U x.missed] 40) 40 #[F none 0 0,F none 0 0,O U 0,O U 0,O U 0]
 have b1:=(Below.refl w.heap.size w).alloc (Nat.le_refl _) (.cells #[F x.TA x.t.length x.tc,F x.OA x.o.length x.oc,O U x.got,O U x.sold,O U x.missed] 40)
 have b2:=b1.alloc b1.size (.cells #[F none 0 0,F none 0 0,O U 0,O U 0,O U 0] 40)
 clear b1
 go_enter Tryz.func81,Tryz.ntmps81
 go_wp2_with fail
 generalize ((w.alloc (.cells #[F x.TA x.t.length x.tc,F x.OA x.o.length x.oc,O U x.got,O U x.sold,O U x.missed] 40)).alloc (.cells #[F none 0 0,F none 0 0,O U 0,O U 0,O U 0] 40))=W at L1 L2 b2 ⊢
 have hR:=h.up b2 (Nat.le_refl _)
 have hT:=hR.ts
 have hO:=hR.os
 have l1:=L1.lt
 have l2:=L2.lt
 clear h hR
 refine eB (fun W9=>Below W.heap.size W W9) (fun w1 w2=>Below w1.heap.size w1 w2) (by kernel_rfl) (by kernel_rfl) (by kernel_rfl) (by kernel_rfl) (Below.refl _ _).drew ?_
 simp only [aw,Act.put,List.setIfInBounds_toArray,List.set_cons_zero,List.set_cons_succ,Nat.zero_add,Nat.reduceAdd]
 refine bZ (fun v w9=>∃ g,v=F (some ⟨g,0,none⟩) 0 0∧w.heap.size≤g∧ah w9 g 104 []) (fun v w1 w2 hv hT'=>by obtain ⟨g,e,hg,hl⟩:=hv; exact ⟨g,e,hg,hl.below hT' hl.lt⟩) (fun vs w9 hC9 hB K9 hK9=>?_) ?_
 ·go_simp
  exact hK9 _ _ _ rfl ⟨_,rfl,Nat.le_trans b2.size hC9.size,ah.new w9 104 #[]⟩ (hC9.alloc hC9.size _) ((Below.refl _ _).alloc (Nat.le_refl _) _)
 refine aC (.pointer (some ⟨w.heap.size,0,none⟩)) (fun vs w9 hC9 hB K9 hK9=>?_) ?_
 ·go_simp
  exact hK9 _ _ rfl hC9 (Below.refl _ _)
 refine aC (F x.TA x.t.length x.tc) (fun vs w9 hC9 hB K9 hK9=>?_) ?_
 ·have hd:=hB 1 _ (by kernel_rfl) rfl
  simp only [hd] at hK9 ⊢
  have q1:w9.cell? ⟨w.heap.size,0,none⟩=some (F x.TA x.t.length x.tc):=(L1.below hC9 L1.lt).cell 0
  go_simp
  exact hK9 _ _ rfl hC9 (Below.refl _ _)
 refine bZ (fun v w9=>∃ A c,v=F A x.t.length c∧w9.ownsRow w.heap.size 104 2 (F A x.t.length c) x.t.length (x.t.flatMap ap.enc)) (fun v w1 w2 hv hT'=>by obtain ⟨A,c,e,ho⟩:=hv; exact ⟨A,c,e,ac ho hT'⟩) (fun vs w9 hC9 hB K9 hK9=>?_) ?_
 ·obtain ⟨g,e0,hg,hl⟩:=hB 0 _ (by kernel_rfl) rfl
  have hd:=hB 2 _ (by kernel_rfl) rfl
  simp only [e0,hd] at hK9 ⊢
  refine lO rfl (.tmp 3) (.tmp 5) 37 rfl 104 _ 2 16 Tryz.underlying37 dw rfl (by omega) (by omega) w.heap.size g (by rfl) hl hg W.heap.size x.TA x.t.length x.tc (x.t.flatMap ap.enc) (by rfl) (aY.below hT hC9) dN tl ?_
  intro v' w' ho hb
  obtain ⟨A',c',rfl⟩:=av ho
  exact hK9 _ _ _ rfl ⟨A',c',rfl,ho⟩ (hC9.trans (hb.mono hC9.size)) hb
 refine bZ (fun v w9=>∃ g,v=F (some ⟨g,0,none⟩) 0 0∧w.heap.size≤g∧ah w9 g 147 []) (fun v w1 w2 hv hT'=>by obtain ⟨g,e,hg,hl⟩:=hv; exact ⟨g,e,hg,hl.below hT' hl.lt⟩) (fun vs w9 hC9 hB K9 hK9=>?_) ?_
 ·go_simp
  exact hK9 _ _ _ rfl ⟨_,rfl,Nat.le_trans b2.size hC9.size,ah.new w9 147 #[]⟩ (hC9.alloc hC9.size _) ((Below.refl _ _).alloc (Nat.le_refl _) _)
 refine aC (.pointer (some ⟨w.heap.size,1,none⟩)) (fun vs w9 hC9 hB K9 hK9=>?_) ?_
 ·go_simp
  exact hK9 _ _ rfl hC9 (Below.refl _ _)
 refine aC (F x.OA x.o.length x.oc) (fun vs w9 hC9 hB K9 hK9=>?_) ?_
 ·have hd:=hB 5 _ (by kernel_rfl) rfl
  simp only [hd] at hK9 ⊢
  have q1:w9.cell? ⟨w.heap.size,1,none⟩=some (F x.OA x.o.length x.oc):=(L1.below hC9 L1.lt).cell 1
  go_simp
  exact hK9 _ _ rfl hC9 (Below.refl _ _)
 refine bZ (fun v w9=>∃ A c,v=F A x.o.length c∧w9.ownsRow w.heap.size 147 3 (F A x.o.length c) x.o.length (x.o.flatMap ae.enc)) (fun v w1 w2 hv hT'=>by obtain ⟨A,c,e,ho⟩:=hv; exact ⟨A,c,e,ac ho hT'⟩) (fun vs w9 hC9 hB K9 hK9=>?_) ?_
 ·obtain ⟨g,e0,hg,hl⟩:=hB 4 _ (by kernel_rfl) rfl
  have hd:=hB 6 _ (by kernel_rfl) rfl
  simp only [e0,hd] at hK9 ⊢
  refine lO rfl (.tmp 7) (.tmp 9) 38 rfl 147 _ 3 24 Tryz.underlying38 dM rfl (by omega) (by omega) w.heap.size g (by rfl) hl hg W.heap.size x.OA x.o.length x.oc (x.o.flatMap ae.enc) (by rfl) (aY.below hO hC9) ex ol ?_
  intro v' w' ho hb
  obtain ⟨A',c',rfl⟩:=av ho
  exact hK9 _ _ _ rfl ⟨A',c',rfl,ho⟩ (hC9.trans (hb.mono hC9.size)) hb
 refine aC (.pointer (some ⟨w.heap.size,2,none⟩)) (fun vs w9 hC9 hB K9 hK9=>?_) ?_
 ·go_simp
  exact hK9 _ _ rfl hC9 (Below.refl _ _)
 refine aC (O U x.got) (fun vs w9 hC9 hB K9 hK9=>?_) ?_
 ·have hd:=hB 8 _ (by kernel_rfl) rfl
  simp only [hd] at hK9 ⊢
  have q1:w9.cell? ⟨w.heap.size,2,none⟩=some (O U x.got):=(L1.below hC9 L1.lt).cell 2
  go_simp
  exact hK9 _ _ rfl hC9 (Below.refl _ _)
 refine aC (.pointer (some ⟨w.heap.size,3,none⟩)) (fun vs w9 hC9 hB K9 hK9=>?_) ?_
 ·go_simp
  exact hK9 _ _ rfl hC9 (Below.refl _ _)
 refine aC (O U x.sold) (fun vs w9 hC9 hB K9 hK9=>?_) ?_
 ·have hd:=hB 10 _ (by kernel_rfl) rfl
  simp only [hd] at hK9 ⊢
  have q1:w9.cell? ⟨w.heap.size,3,none⟩=some (O U x.sold):=(L1.below hC9 L1.lt).cell 3
  go_simp
  exact hK9 _ _ rfl hC9 (Below.refl _ _)
 refine aC (.pointer (some ⟨w.heap.size,4,none⟩)) (fun vs w9 hC9 hB K9 hK9=>?_) ?_
 ·go_simp
  exact hK9 _ _ rfl hC9 (Below.refl _ _)
 refine aC (O U x.missed) (fun vs w9 hC9 hB K9 hK9=>?_) ?_
 ·have hd:=hB 12 _ (by kernel_rfl) rfl
  simp only [hd] at hK9 ⊢
  have q1:w9.cell? ⟨w.heap.size,4,none⟩=some (O U x.missed):=(L1.below hC9 L1.lt).cell 4
  go_simp
  exact hK9 _ _ rfl hC9 (Below.refl _ _)
 refine bZ (fun v w9=>∃ A c A' c',v=.agg #[F A x.t.length c,F A' x.o.length c',O U x.got,O U x.sold,O U x.missed]∧w9.ownsRow w.heap.size 104 2 (F A x.t.length c) x.t.length (x.t.flatMap ap.enc)∧w9.ownsRow w.heap.size 147 3 (F A' x.o.length c') x.o.length (x.o.flatMap ae.enc))
  (fun v w1 w2 hv hT'=>by obtain ⟨A,c,A',c',e,ho,hp⟩:=hv; exact ⟨A,c,A',c',e,ac ho hT',ac hp hT'⟩) (fun vs w9 hC9 hB K9 hK9=>?_) ?_
 ·obtain ⟨A,c,e3,ho⟩:=hB 3 _ (by kernel_rfl) rfl
  obtain ⟨A',c',e7,hp⟩:=hB 7 _ (by kernel_rfl) rfl
  have d9:=hB 9 _ (by kernel_rfl) rfl
  have d11:=hB 11 _ (by kernel_rfl) rfl
  have d13:=hB 13 _ (by kernel_rfl) rfl
  have ho:=Lib.hid ho
  have hp:=Lib.hid hp
  simp only [e3,e7,d9,d11,d13] at hK9 ⊢
  go_simp
  exact hK9 _ _ _ rfl ⟨A,c,A',c',rfl,ho.out,hp.out⟩ hC9 (Below.refl _ _)
 refine fH (fun vs w9 hC9 hB K9 hK9=>?_)
 obtain ⟨A,c,A',c',e14,ho,hp⟩:=hB 14 _ rfl
 simp only [e14] at hK9 ⊢
 have L2z:=L2.below hC9 L2.lt
 have z0:=L2z.cell 0
 have z1:=L2z.cell 1
 have z2:=L2z.cell 2
 have z3:=L2z.cell 3
 have z4:=L2z.cell 4
 obtain ⟨f0,f1,f2,f3,f4⟩:=frz5 L2z
 simp only [List.getElem?_cons_zero,List.getElem?_cons_succ] at z0 z1 z2 z3 z4
 have hgr:=(ab (g:=w.heap.size+1) (i:=4) (u:=O U x.missed) (ab (g:=w.heap.size+1) (i:=3) (u:=O U x.sold) (ab (g:=w.heap.size+1) (i:=2) (u:=O U x.got) (ab (g:=w.heap.size+1) (i:=1) (u:=F A' x.o.length c') (ab (g:=w.heap.size+1) (i:=0) (u:=F A x.t.length c) (World.grownBy.refl w9 (some (w.heap.size+1))))))))
 have bw:=b2.trans (hC9.mono b2.size)
 have bz:=bw.grown hgr bw.size (by rintro _ ⟨⟩; omega)
 have R8:=Lib.hid (aj ho L2z cy hgr)
 have R9:=Lib.hid (aj hp L2z cR hgr)
 clear hgr ho hp hB L2z
 go_simp
 refine hK9 _ _ ?_
 clear hK9 K9
 go_wp2
 refine bodyPost_ret (v:=.agg #[F A x.t.length c,F A' x.o.length c',O U x.got,O U x.sold,O U x.missed]) (by simp [results,Tryz.results81,go_sem, *]) rfl ?_
 exact ⟨A,c,A',c',rfl,R8.out,R9.out,bz⟩
def lf (w:World) (B:Nat) (y:Oc) (l:Lg) (v:Value):Prop :=
 ∃ TA tc OA oc,v=.agg #[F TA y.t.length tc,F OA y.o.length oc,O U y.got,O U y.sold,O U y.missed,uk l.D,uk l.P,O U l.n]∧w.ownsRow B 104 2 (F TA y.t.length tc) y.t.length (y.t.flatMap ap.enc)∧w.ownsRow B 147 3 (F OA y.o.length oc) y.o.length (y.o.flatMap ae.enc)
def sY (w:World) (y:Oc) (l:Lg) (e:Ending) (w' : World):Prop:=∃ v,e=.returned v∧lf w' w.heap.size y l v∧Below w.heap.size w w'
theorem lf.below {w w' : World} {B:Nat} {y:Oc} {l:Lg} {v:Value} (h:lf w B y l v) (hb:Below w.heap.size w w'):lf w' B y l v:=by
 obtain ⟨TA,tc,OA,oc,e,h1,h2⟩:=h
 exact ⟨TA,tc,OA,oc,e,ac h1 hb,ac h2 hb⟩
theorem lf.lower {w:World} {B B' : Nat} {y:Oc} {l:Lg} {v:Value} (h:lf w B y l v) (hB:B'≤B):lf w B' y l v:=by
 obtain ⟨TA,tc,OA,oc,e,h1,h2⟩:=h
 exact ⟨TA,tc,OA,oc,e,af h1 hB,af h2 hB⟩
theorem lf.as {w:World} {B:Nat} {y:Oc} {l:Lg} {v:Value} (h:lf w B y l v):∃ X:aL,v=aD X l∧X.c=y∧aM w w.heap.size X∧X.t.length≤X.tc:=by
 obtain ⟨TA,tc,OA,oc,e,h1,h2⟩:=h
 exact ⟨y.at TA tc OA oc,e,rfl,⟨aA h1,aA h2⟩,jb h1⟩
theorem ia {w0 w:World} {B g:Nat} {t:TypeId} {x0 x1 x2 x3 x4:Value} {r:List Value} (hL:ah w g t (x0 :: x1 :: x2 :: x3 :: x4 :: r)) (b:Below B w0 w) (hB:B≤g) (a0 a1 a2 a3 a4:Value) :
  ∃ W' : World,Hid ((((((w.setCell ⟨g,0,none⟩ a0).setCell ⟨g,1,none⟩ a1).setCell ⟨g,2,none⟩ a2).setCell ⟨g,3,none⟩ a3).setCell ⟨g,4,none⟩ a4)=W')∧ah W' g t (a0 :: a1 :: a2 :: a3 :: a4 :: r)∧Below B w0 W'∧w.grownBy W' (some g)∧(∀ g' t' cs',g' ≠ g→ah w g' t' cs'→ah W' g' t' cs'):=by
 have gr:w.grownBy (((((w.setCell ⟨g,0,none⟩ a0).setCell ⟨g,1,none⟩ a1).setCell ⟨g,2,none⟩ a2).setCell ⟨g,3,none⟩ a3).setCell ⟨g,4,none⟩ a4) (some g):=ab (g:=g) (i:=4) (u:=a4) (ab (g:=g) (i:=3) (u:=a3) (ab (g:=g) (i:=2) (u:=a2) (ab (g:=g) (i:=1) (u:=a1) (ab (g:=g) (i:=0) (u:=a0) (World.grownBy.refl w (some g))))))
 exact ⟨_,rfl,(((((hL).set 0 a0).set 1 a1).set 2 a2).set 3 a3).set 4 a4,(((((b).setCell (p:=⟨g,0,none⟩) hB a0).setCell (p:=⟨g,1,none⟩) hB a1).setCell (p:=⟨g,2,none⟩) hB a2).setCell (p:=⟨g,3,none⟩) hB a3).setCell (p:=⟨g,4,none⟩) hB a4,gr,fun g' t' cs' hne h=>h.kept gr (by intro e; injection e with e; exact hne e)⟩
theorem fa:104 ≠ 42:=by decide
theorem fb:147 ≠ 42:=by decide
def dp (w:World) (B g:Nat) (y:Oc) (l:Lg):Prop :=
 ∃ TA tc OA oc,ah w g 42 [F TA y.t.length tc,F OA y.o.length oc,O U y.got,O U y.sold,O U y.missed,uk l.D,uk l.P,O U l.n]∧w.ownsRow B 104 2 (F TA y.t.length tc) y.t.length (y.t.flatMap ap.enc)∧w.ownsRow B 147 3 (F OA y.o.length oc) y.o.length (y.o.flatMap ae.enc)
theorem dp.below {w w' : World} {B g:Nat} {y:Oc} {l:Lg} (h:dp w B g y l) (hb:Below w.heap.size w w'):dp w' B g y l:=by
 obtain ⟨TA,tc,OA,oc,hL,h1,h2⟩:=h
 exact ⟨TA,tc,OA,oc,hL.below hb hL.lt,ac h1 hb,ac h2 hb⟩
theorem dp.lower {w:World} {B B' g:Nat} {y:Oc} {l:Lg} (h:dp w B g y l) (hB:B'≤B):dp w B' g y l:=by
 obtain ⟨TA,tc,OA,oc,hL,h1,h2⟩:=h
 exact ⟨TA,tc,OA,oc,hL,af h1 hB,af h2 hB⟩
theorem dp.put {w:World} {B g:Nat} {y:Oc} {l:Lg} {TA OA:Option Addr} {tc oc:Nat} {a0 a1 a2 a3 a4 a5 a6 a7:Value} (hL:ah w g 42 [a0,a1,a2,a3,a4,a5,a6,a7]) (h1:w.ownsRow B 104 2 (F TA y.t.length tc) y.t.length (y.t.flatMap ap.enc)) (h2:w.ownsRow B 147 3 (F OA y.o.length oc) y.o.length (y.o.flatMap ae.enc)) :
  dp ((((((((w.setCell ⟨g,0,none⟩ (F TA y.t.length tc)).setCell ⟨g,1,none⟩ (F OA y.o.length oc)).setCell ⟨g,2,none⟩ (O U y.got)).setCell ⟨g,3,none⟩ (O U y.sold)).setCell ⟨g,4,none⟩ (O U y.missed)).setCell ⟨g,5,none⟩ (uk l.D)).setCell ⟨g,6,none⟩ (uk l.P)).setCell ⟨g,7,none⟩ (O U l.n)) B g y l:=by
 have gr:w.grownBy ((((((((w.setCell ⟨g,0,none⟩ (F TA y.t.length tc)).setCell ⟨g,1,none⟩ (F OA y.o.length oc)).setCell ⟨g,2,none⟩ (O U y.got)).setCell ⟨g,3,none⟩ (O U y.sold)).setCell ⟨g,4,none⟩ (O U y.missed)).setCell ⟨g,5,none⟩ (uk l.D)).setCell ⟨g,6,none⟩ (uk l.P)).setCell ⟨g,7,none⟩ (O U l.n)) (some g):=ab (g:=g) (i:=7) (u:=O U l.n) (ab (g:=g) (i:=6) (u:=uk l.P) (ab (g:=g) (i:=5) (u:=uk l.D) (ab (g:=g) (i:=4) (u:=O U y.missed) (ab (g:=g) (i:=3) (u:=O U y.sold) (ab (g:=g) (i:=2) (u:=O U y.got) (ab (g:=g) (i:=1) (u:=F OA y.o.length oc) (ab (g:=g) (i:=0) (u:=F TA y.t.length tc) (World.grownBy.refl w (some g)))))))))
 exact ⟨TA,tc,OA,oc,oo (hL) (F TA y.t.length tc) (F OA y.o.length oc) (O U y.got) (O U y.sold) (O U y.missed) (uk l.D) (uk l.P) (O U l.n),aj h1 hL fa gr,aj h2 hL fb gr⟩
set_option maxRecDepth 100000 in
set_option maxHeartbeats 4000000 in
theorem gE (x:aL) (l:Lg) (w:World) (h:aM w w.heap.size x) (tl:x.t.length≤1048576) (ol:x.o.length≤1048576) :
  Calls Tryz.prog 44 #[aD x l] w (sY w x.c l):=by
 have L1:=(ah.new w 42 #[F x.TA x.t.length x.tc,F x.OA x.o.length x.oc,O U x.got,O U x.sold,O U x.missed,uk l.D,uk l.P,O U l.n]).alloc (.cells #[F none 0 0,F none 0 0,O U 0,O U 0,O U 0,uk ⟨#[]⟩,uk ⟨#[]⟩,O U 0] 42)
 have L2:=ah.new1 w (.cells #[F x.TA x.t.length x.tc,F x.OA x.o.length x.oc,O U x.got,O U x.sold,O U x.missed,uk l.D,uk l.P,O U l.n] 42) 42 #[F none 0 0,F none 0 0,O U 0,O U 0,O U 0,uk ⟨#[]⟩,uk ⟨#[]⟩,O U 0]
 have b1:=(Below.refl w.heap.size w).alloc (Nat.le_refl _) (.cells #[F x.TA x.t.length x.tc,F x.OA x.o.length x.oc,O U x.got,O U x.sold,O U x.missed,uk l.D,uk l.P,O U l.n] 42)
 have b2:=b1.alloc b1.size (.cells #[F none 0 0,F none 0 0,O U 0,O U 0,O U 0,uk ⟨#[]⟩,uk ⟨#[]⟩,O U 0] 42)
 have hW:=h.up b2 (Nat.le_refl _)
 have hge:w.heap.size≤w.heap.size+1:=by omega
 clear b1 h
 go_enter Tryz.func44,Tryz.ntmps44
 go_wp2_with fail
 generalize ((w.alloc (.cells #[F x.TA x.t.length x.tc,F x.OA x.o.length x.oc,O U x.got,O U x.sold,O U x.missed,uk l.D,uk l.P,O U l.n] 42)).alloc (.cells #[F none 0 0,F none 0 0,O U 0,O U 0,O U 0,uk ⟨#[]⟩,uk ⟨#[]⟩,O U 0] 42))=W at L1 L2 b2 hW ⊢
 refine am (Sw 6 (fun W9=>Below W.heap.size W W9) (fun W9=>Below w.heap.size w W9∧dp W9 w.heap.size (w.heap.size+1) x.c l)) (fun i w1 w2=>i ∉ [6]→Below w1.heap.size w1 w2) (by kernel_rfl) (by kernel_rfl) (by kernel_rfl) (Sw.start (Below.refl _ _).drew) ?_
 simp only [aw,Act.put,List.setIfInBounds_toArray,List.set_cons_zero,List.set_cons_succ,Nat.zero_add,Nat.reduceAdd]
 apply aa
 case h1 =>
  intro vs L9 w9 hG9 hC9 hB K9 hK9
  replace hC9:=sb hC9 hG9
  simp only [Act.put,sA,s0,s1] at hK9
  go_simp
  exact hK9 _ _ rfl (sy hG9 hC9) bR
 apply aa
 case h1 =>
  intro vs L9 w9 hG9 hC9 hB K9 hK9
  replace hC9:=sb hC9 hG9
  have d0:=fe hB 0
  simp only [d0] at hK9 ⊢
  have q0:w9.cell? ⟨w.heap.size,0,none⟩=some (F x.TA x.t.length x.tc):=(L1.below hC9 L1.lt).cell 0
  have q1:w9.cell? ⟨w.heap.size,1,none⟩=some (F x.OA x.o.length x.oc):=(L1.below hC9 L1.lt).cell 1
  have q2:w9.cell? ⟨w.heap.size,2,none⟩=some (O U x.got):=(L1.below hC9 L1.lt).cell 2
  have q3:w9.cell? ⟨w.heap.size,3,none⟩=some (O U x.sold):=(L1.below hC9 L1.lt).cell 3
  have q4:w9.cell? ⟨w.heap.size,4,none⟩=some (O U x.missed):=(L1.below hC9 L1.lt).cell 4
  simp only [Act.put,sA,s0,s1] at hK9
  go_simp
  exact hK9 _ _ rfl (sy hG9 hC9) bR
 refine ak [6] (fun v w9=>fC w9 w.heap.size x.c v) ?_ (fun vs L9 w9 hG9 hC9 hB K9 hK9=>?_) ?_
 next =>
  intro i9 hi9 hb9 ha9 v w1 w2 hv hT9
  have hb:=hT9 (fun hm=>by
   simp only [List.mem_cons,List.not_mem_nil,or_false] at hm hb9
   subst hm
   ·exact hb9 (by simp))
  exact hv.below hb
 next =>
  replace hC9:=sb hC9 hG9
  have d1:=fe hB 1
  simp only [d1] at hK9 ⊢
  simp only [Act.put,sA,s0,s1] at hK9
  go_simp
  refine (qx x w9 (hW.then hC9) tl ol).mono ?_
  rintro en w8 ⟨TA,tc,OA,oc,rfl,h1,h2,hb8⟩
  exact hK9 _ _ _ rfl ⟨TA,tc,OA,oc,rfl,af h1 (Nat.le_trans (b2).size hC9.size),af h2 (Nat.le_trans (b2).size hC9.size)⟩ (Sw.stay hG9 (by kernel_rfl) (by decide) (hC9.trans (hb8.mono hC9.size))) (fun _=>hb8)
 apply aa
 case h1 =>
  intro vs L9 w9 hG9 hC9 hB K9 hK9
  replace hC9:=sb hC9 hG9
  simp only [Act.put,sA,s0,s1] at hK9
  go_simp
  exact hK9 _ _ rfl (sy hG9 hC9) bR
 apply aa
 case h1 =>
  intro vs L9 w9 hG9 hC9 hB K9 hK9
  replace hC9:=sb hC9 hG9
  have d3:=fe hB 3
  simp only [d3] at hK9 ⊢
  have q0:w9.cell? ⟨w.heap.size,5,none⟩=some (uk l.D):=(L1.below hC9 L1.lt).cell 5
  have q1:w9.cell? ⟨w.heap.size,6,none⟩=some (uk l.P):=(L1.below hC9 L1.lt).cell 6
  have q2:w9.cell? ⟨w.heap.size,7,none⟩=some (O U l.n):=(L1.below hC9 L1.lt).cell 7
  simp only [Act.put,sA,s0,s1] at hK9
  go_simp
  exact hK9 _ _ rfl (sy hG9 hC9) bR
 refine ak [6] (fun v w9=>lf w9 w.heap.size x.c l v) ?_ (fun vs L9 w9 hG9 hC9 hB K9 hK9=>?_) ?_
 next =>
  intro i9 hi9 hb9 ha9 v w1 w2 hv hT9
  have hb:=hT9 (fun hm=>by
   simp only [List.mem_cons,List.not_mem_nil,or_false] at hm hb9
   subst hm
   ·exact hb9 (by simp))
  exact hv.below hb
 next =>
  replace hC9:=sb hC9 hG9
  have d4:=fe hB 4
  simp only [d4] at hK9 ⊢
  simp only [Act.put,sA,s0,s1] at hK9
  obtain ⟨TA,tc,OA,oc,e0,h1,h2⟩:=fs hB 2
  simp only [e0] at hK9 ⊢
  go_simp
  exact hK9 _ _ _ rfl ⟨TA,tc,OA,oc,rfl,h1,h2⟩ (sy hG9 hC9) bR
 refine aa (undef) (fun vs L9 w9 hG9 hC9 hB K9 hK9=>?_) ?_
 next =>
  replace hC9:=hC9.here hG9
  obtain ⟨TA,tc,OA,oc,e0,h1,h2⟩:=fs hB 5
  simp only [e0] at hK9 ⊢
  have Lr:=L2.below hC9 L2.lt
  obtain ⟨z0,z1,z2,z3,z4,z5,z6,z7⟩:=cells8 Lr
  obtain ⟨f0,f1,f2,f3,f4,f5,f6,f7⟩:=frz8 Lr
  have hN8:=Lib.hid (dp.put (y:=x.c) (l:=l) Lr h1 h2)
  have hD8:=Lib.hid (dY (g:=(w.heap.size+1)) ((b2).trans (hC9.mono (b2).size)) hge (F TA x.t.length tc) (F OA x.o.length oc) (O U x.got) (O U x.sold) (O U x.missed) (uk l.D) (uk l.P) (O U l.n))
  clear Lr h1 h2
  go_simp
  exact hK9 _ _ rfl (Sw.turn ⟨hD8.out,hN8.out⟩) (fun hq=>(hq (by decide)).elim)
 refine ax fun vs L9 w9 hL9 hC9 hB=>?_
 replace hC9:=hC9.done hL9 (by decide)
 obtain ⟨hD,TA,tc,OA,oc,hN,hT,hO⟩:=hC9
 obtain ⟨k0,k1,k2,k3,k4,k5,k6,k7⟩:=cells8 hN
 clear hN hB
 go_wp2
 refine bodyPost_ret (v:=.agg #[F TA x.c.t.length tc,F OA x.c.o.length oc,O U x.c.got,O U x.c.sold,O U x.c.missed,uk l.D,uk l.P,O U l.n]) (by simp [results,Tryz.results44,go_sem, *]) rfl ⟨_,rfl,⟨TA,tc,OA,oc,rfl,hT,hO⟩,hD⟩
set_option maxRecDepth 100000 in
set_option maxHeartbeats 4000000 in
theorem eS (x:aL) (l:Lg) (g:Nat) (w:World) (hL:ah w g 42 [F x.TA x.t.length x.tc,F x.OA x.o.length x.oc,O U x.got,O U x.sold,O U x.missed,uk l.D,uk l.P,O U l.n]) (h:aM w w.heap.size x) (tl:x.t.length≤1048576) (ol:x.o.length≤1048576) :
  Calls Tryz.prog 50 #[.pointer (some ⟨g,0,none⟩)] w (sY w x.c l):=by
 have L1:=hL.alloc (.cells #[F none 0 0,F none 0 0,O U 0,O U 0,O U 0,uk ⟨#[]⟩,uk ⟨#[]⟩,O U 0] 42)
 have L2:=ah.new w 42 #[F none 0 0,F none 0 0,O U 0,O U 0,O U 0,uk ⟨#[]⟩,uk ⟨#[]⟩,O U 0]
 have b2:=(Below.refl w.heap.size w).alloc (Nat.le_refl _) (.cells #[F none 0 0,F none 0 0,O U 0,O U 0,O U 0,uk ⟨#[]⟩,uk ⟨#[]⟩,O U 0] 42)
 have hW:=h.up b2 (Nat.le_refl _)
 have hge:w.heap.size≤w.heap.size:=Nat.le_refl _
 clear h hL
 go_enter Tryz.func50,Tryz.ntmps50
 go_wp2_with fail
 generalize w.alloc (.cells #[F none 0 0,F none 0 0,O U 0,O U 0,O U 0,uk ⟨#[]⟩,uk ⟨#[]⟩,O U 0] 42)=W at L1 L2 b2 hW ⊢
 refine am (Sw 9 (fun W9=>Below W.heap.size W W9) (fun W9=>Below w.heap.size w W9∧dp W9 w.heap.size w.heap.size x.c l)) (fun i w1 w2=>i ∉ [9]→Below w1.heap.size w1 w2) (by kernel_rfl) (by kernel_rfl) (by kernel_rfl) (Sw.start (Below.refl _ _).drew) ?_
 simp only [aw,Act.put,List.setIfInBounds_toArray,List.set_cons_zero,List.set_cons_succ,Nat.zero_add,Nat.reduceAdd]
 apply aa
 case h1 =>
  intro vs L9 w9 hG9 hC9 hB K9 hK9
  replace hC9:=sb hC9 hG9
  simp only [Act.put,sA,s0,s1] at hK9
  go_simp
  exact hK9 _ _ rfl (sy hG9 hC9) bR
 apply aa
 case h1 =>
  intro vs L9 w9 hG9 hC9 hB K9 hK9
  replace hC9:=sb hC9 hG9
  have d0:=fe hB 0
  simp only [d0] at hK9 ⊢
  simp only [Act.put,sA,s0,s1] at hK9
  go_simp
  exact hK9 _ _ rfl (sy hG9 hC9) bR
 apply aa
 case h1 =>
  intro vs L9 w9 hG9 hC9 hB K9 hK9
  replace hC9:=sb hC9 hG9
  have d1:=fe hB 1
  simp only [d1] at hK9 ⊢
  simp only [Act.put,sA,s0,s1] at hK9
  go_simp
  exact hK9 _ _ rfl (sy hG9 hC9) bR
 refine ak [9] (fun v w9=>fC w9 w.heap.size x.c v) ?_ (fun vs L9 w9 hG9 hC9 hB K9 hK9=>?_) ?_
 next =>
  intro i9 hi9 hb9 ha9 v w1 w2 hv hT9
  have hb:=hT9 (fun hm=>by
   simp only [List.mem_cons,List.not_mem_nil,or_false] at hm hb9
   subst hm
   ·exact hb9 (by simp))
  exact hv.below hb
 next =>
  replace hC9:=sb hC9 hG9
  have d2:=fe hB 2
  simp only [d2] at hK9 ⊢
  simp only [Act.put,sA,s0,s1] at hK9
  go_simp
  refine (mN x g w9 (jO (L1.below hC9 L1.lt) (hW.then hC9)) tl ol).mono ?_
  rintro en w8 ⟨TA,tc,OA,oc,rfl,h1,h2,hb8⟩
  exact hK9 _ _ _ rfl ⟨TA,tc,OA,oc,rfl,af h1 (Nat.le_trans (b2).size hC9.size),af h2 (Nat.le_trans (b2).size hC9.size)⟩ (Sw.stay hG9 (by kernel_rfl) (by decide) (hC9.trans (hb8.mono hC9.size))) (fun _=>hb8)
 apply aa
 case h1 =>
  intro vs L9 w9 hG9 hC9 hB K9 hK9
  replace hC9:=sb hC9 hG9
  simp only [Act.put,sA,s0,s1] at hK9
  go_simp
  exact hK9 _ _ rfl (sy hG9 hC9) bR
 apply aa
 case h1 =>
  intro vs L9 w9 hG9 hC9 hB K9 hK9
  replace hC9:=sb hC9 hG9
  have d4:=fe hB 4
  simp only [d4] at hK9 ⊢
  simp only [Act.put,sA,s0,s1] at hK9
  go_simp
  exact hK9 _ _ rfl (sy hG9 hC9) bR
 apply aa
 case h1 =>
  intro vs L9 w9 hG9 hC9 hB K9 hK9
  replace hC9:=sb hC9 hG9
  have d5:=fe hB 5
  simp only [d5] at hK9 ⊢
  simp only [Act.put,sA,s0,s1] at hK9
  go_simp
  exact hK9 _ _ rfl (sy hG9 hC9) bR
 apply aa
 case h1 =>
  intro vs L9 w9 hG9 hC9 hB K9 hK9
  replace hC9:=sb hC9 hG9
  have d6:=fe hB 6
  simp only [d6] at hK9 ⊢
  have q0:w9.cell? ⟨g,5,none⟩=some (uk l.D):=(L1.below hC9 L1.lt).cell 5
  have q1:w9.cell? ⟨g,6,none⟩=some (uk l.P):=(L1.below hC9 L1.lt).cell 6
  have q2:w9.cell? ⟨g,7,none⟩=some (O U l.n):=(L1.below hC9 L1.lt).cell 7
  simp only [Act.put,sA,s0,s1] at hK9
  go_simp
  exact hK9 _ _ rfl (sy hG9 hC9) bR
 refine ak [9] (fun v w9=>lf w9 w.heap.size x.c l v) ?_ (fun vs L9 w9 hG9 hC9 hB K9 hK9=>?_) ?_
 next =>
  intro i9 hi9 hb9 ha9 v w1 w2 hv hT9
  have hb:=hT9 (fun hm=>by
   simp only [List.mem_cons,List.not_mem_nil,or_false] at hm hb9
   subst hm
   ·exact hb9 (by simp))
  exact hv.below hb
 next =>
  replace hC9:=sb hC9 hG9
  have d7:=fe hB 7
  simp only [d7] at hK9 ⊢
  simp only [Act.put,sA,s0,s1] at hK9
  obtain ⟨TA,tc,OA,oc,e0,h1,h2⟩:=fs hB 3
  simp only [e0] at hK9 ⊢
  go_simp
  exact hK9 _ _ _ rfl ⟨TA,tc,OA,oc,rfl,h1,h2⟩ (sy hG9 hC9) bR
 refine aa (undef) (fun vs L9 w9 hG9 hC9 hB K9 hK9=>?_) ?_
 next =>
  replace hC9:=hC9.here hG9
  obtain ⟨TA,tc,OA,oc,e0,h1,h2⟩:=fs hB 8
  simp only [e0] at hK9 ⊢
  have Lr:=L2.below hC9 L2.lt
  obtain ⟨z0,z1,z2,z3,z4,z5,z6,z7⟩:=cells8 Lr
  obtain ⟨f0,f1,f2,f3,f4,f5,f6,f7⟩:=frz8 Lr
  have hN8:=Lib.hid (dp.put (y:=x.c) (l:=l) Lr h1 h2)
  have hD8:=Lib.hid (dY (g:=w.heap.size) ((b2).trans (hC9.mono (b2).size)) hge (F TA x.t.length tc) (F OA x.o.length oc) (O U x.got) (O U x.sold) (O U x.missed) (uk l.D) (uk l.P) (O U l.n))
  clear Lr h1 h2
  go_simp
  exact hK9 _ _ rfl (Sw.turn ⟨hD8.out,hN8.out⟩) (fun hq=>(hq (by decide)).elim)
 refine ax fun vs L9 w9 hL9 hC9 hB=>?_
 replace hC9:=hC9.done hL9 (by decide)
 obtain ⟨hD,TA,tc,OA,oc,hN,hT,hO⟩:=hC9
 obtain ⟨k0,k1,k2,k3,k4,k5,k6,k7⟩:=cells8 hN
 clear hN hB
 go_wp2
 refine bodyPost_ret (v:=.agg #[F TA x.c.t.length tc,F OA x.c.o.length oc,O U x.c.got,O U x.c.sold,O U x.c.missed,uk l.D,uk l.P,O U l.n]) (by simp [results,Tryz.results50,go_sem, *]) rfl ⟨_,rfl,⟨TA,tc,OA,oc,rfl,hT,hO⟩,hD⟩
end Go.Proofs.YtoeoimhemojdeaaGreatDoor
