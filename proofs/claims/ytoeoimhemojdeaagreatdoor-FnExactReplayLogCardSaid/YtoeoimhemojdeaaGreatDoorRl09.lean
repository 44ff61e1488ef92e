/- Rl09: the texts OpenS LogS Open RecTo LgTo ConTo FmtP Enc Append ExecP ExA ExB Wr ExC, joined into one file. -/
import Derived.ProofKit
import Derived.ChangeOld
import Derived.ShutString
import Derived.OpenShut
import Derived.Deep.Slices
import Derived.Deep.Fields
import Derived.Lib.Join
import Derived.Deep.DeepCutAuto
import Derived.Test.YtoeoimhemojdeaaGreatDoorRl01
import Derived.Test.YtoeoimhemojdeaaGreatDoorRl03
import Derived.Test.YtoeoimhemojdeaaGreatDoorRl04
import Derived.Test.YtoeoimhemojdeaaGreatDoorRl06
import Derived.Test.YtoeoimhemojdeaaGreatDoorRl07
import Derived.Test.YtoeoimhemojdeaaGreatDoorRl08

set_option linter.unusedVariables false
open Go.Value renaming int → O, slice → F, string → sQ
open Go.IntKind renaming i64 → U

namespace Go.Proofs.YtoeoimhemojdeaaGreatDoor
open Go.RowKit
def fR (s:ByteArray) (w:World) (e:Ending) (w' : World):Prop:=∃ A c m,e=.returned (.tuple #[.slice A m.length c,.int .i64 (dy (aT 60 0 (bl s)):Nat)])∧ed (aT 60 0 (bl s)) m ∧
 w'.ownsRow w.heap.size 62 2 (.slice A m.length c) m.length (m.flatMap da.enc)∧Below w.heap.size w w'
theorem qU (x:ByteArray) (b:UInt8) (n:Nat) (hn:n=(aG b (bl x)).length):Hid (∀ (W:World) (B:Nat) (A:Option Addr) (c:Nat),W.ownsRow B 9 1 (.slice A n c) n (dC (aG b (bl x)))→∃ g,A=some ⟨g,0,none⟩∧W.cell? ⟨g,0,none⟩=some (.string (aR x b))∧B≤g∧g < W.heap.size):=fun W B A c h=>by
 subst hn; exact iQ h
set_option maxRecDepth 100000 in
set_option maxHeartbeats 8000000 in
theorem iS (s:ByteArray) (w:World) (hs:s.size≤1000000) :
  Calls Tryz.prog 77 #[.string s] w (fR s w):=by
 have b0:=(Below.refl w.heap.size w).alloc (Nat.le_refl _) (.cells #[] 62)
 have O0:Hid ((w.alloc (.cells #[] 62)).ownsRow w.heap.size 62 2 (.slice (some ⟨w.heap.size,0,none⟩) 0 0) 0 (([] : List da).flatMap da.enc)):=cz (ai.new w 62 #[]) (Nat.le_refl _)
 go_enter Tryz.func77,Tryz.ntmps77
 go_wp2
 have HZ:Hid (aT 60 0 (bl s) = []++aT (60 - 0) 0 ((bl s).drop 0)):=rfl
 go_loopw [4,5,6,7,8] (fun r at' _ _ _ wr=>∃ (a:Nat) (A:Option Addr) (c:Nat) (m:List da) (acc:List ((List UInt8 × List UInt8) × Nat)),m.length≤60∧a≤s.size∧r=.slice A m.length c∧at'=.int .i64 a∧(∃ q:ao w.heap.size w,wr=q.val) ∧
  Hid (ed acc m)∧Hid (dy acc=a)∧Hid (aT 60 0 (bl s)=acc++aT (60 - m.length) m.length ((bl s).drop a))∧Hid (wr.ownsRow w.heap.size 62 2 (.slice A m.length c) m.length (m.flatMap da.enc))) (fun r _ _ _ _ _=>60 - lenOf r)
 case atStart=>exact ⟨0,some ⟨w.heap.size,0,none⟩,0,[],[],by simp,Nat.zero_le _,rfl,rfl,⟨⟨_,b0⟩,rfl⟩,rfl,rfl,HZ,O0⟩
 case round =>
  obtain ⟨a,A,c,m,acc,hm,ha,rfl,rfl,⟨q,rfl⟩,HA,HL,HF,HR⟩:=hrel
  have DONE:aT (60 - m.length) m.length ((bl s).drop a) = []→∀ W',Below q.val.heap.size q.val W'→fR s w (.returned (.tuple #[.slice A m.length c,.int .i64 (a:Nat)])) W':=fun h W' hb=>by
   have h1:=HF.out
   rw [h,List.append_nil] at h1
   exact ⟨A,c,m,by rw [h1,HL.out],by rw [h1]; exact HA.out,ab HR.out hb,(q.go (Nat.le_refl _) hb).below⟩
  by_cases hlt:a < s.size
  ·by_cases hm60:m.length < 60
   ·obtain ⟨n,hn⟩ : ∃ n,60 - m.length=n+1:=⟨59 - m.length,by omega⟩
    obtain ⟨x,hx⟩ : ∃ x:ByteArray,x=s.extract a s.size:=⟨_,rfl⟩
    have hbx:bl x=(bl s).drop a:=by rw [hx,bE,List.take_of_length_le (by rw [ap]; exact Nat.le_refl _)]
    have hxs:x.size≤1000000:=by rw [← ap,hbx,List.length_drop,ap]; omega
    have HSp:Hid (∀ W,Calls Tryz.prog 58 #[.string (s.extract a s.size),.int .u8 10] W fun e w'=>∃ A c,e=.returned (.slice A (aG 10 (bl x)).length c)∧w'.ownsRow W.heap.size 9 1 (.slice A (aG 10 (bl x)).length c) (aG 10 (bl x)).length (dC (aG 10 (bl x)))∧Below W.heap.size W w'):=fun W=>by
     rw [← hx]; exact gG x 10 W (by omega)
    have hys:(aR x 10).size≤1000000:=by unfold aR; rw [← ap,bM]; have:=jB 10 (bl x); rw [ap] at this; omega
    have hyb:bl (aR x 10)=dt 10 (bl x):=by unfold aR; rw [bM]
    have hyz:(aR x 10).size=(dt 10 (bl x)).length:=by rw [← ap,hyb]
    obtain ⟨ps,hps,hps0⟩:=fV 10 (bl x)
    have hlen:(aG 10 (bl x)).length=ps.length+1:=by rw [hps]; rfl
    have hpl:(aG 10 (bl x)).length≤1000001:=by have:=fi 10 (bl x) []; rw [ap] at this; unfold aG; omega
    obtain ⟨n0,hn0⟩ : ∃ n,n=(aG 10 (bl x)).length:=⟨_,rfl⟩
    have HFirst:=qU x 10 n0 hn0
    rw [← hn0] at HSp hlen hpl
    have HDc:=Lib.hid (fun W=>oH m.length (aR x 10) W (by omega) hys)
    rw [hn] at DONE HF
    rw [← hbx] at DONE HF
    have i1:(a:Int)≤(s.size:Int):=by omega
    by_cases h1:(10:UInt8) ∈ bl x
    ·have hn2:2≤n0:=by
      rcases ps with _ | ⟨p,ps⟩
      ·exact absurd h1 (hps0.1 rfl)
      ·simp at hlen; omega
     have hp:=congrArg List.length (df h1)
     have hxl:(bl x).length=s.size - a:=by rw [hbx,List.length_drop,ap]
     simp only [List.length_append,List.length_cons,List.length_drop,hxl,← hyz] at hp
     have hda:a+(aR x 10).size+1≤s.size:=by omega
     obtain ⟨y,hy⟩ : ∃ y:ByteArray,y=aR x 10:=⟨_,rfl⟩
     rw [← hy] at hyb hyz hys HDc HFirst hda
     have HBad:Hid (dx m.length (bl y)=none→∀ W',Below q.val.heap.size q.val W'→fR s w (.returned (.tuple #[.slice A m.length c,.int .i64 (a:Nat)])) W'):=fun h=>DONE (ee (by rw [← hyb]; exact h))
     have HGood:Hid (∀ ra rb,dx m.length (bl y)=some (ra,rb)→aT 60 0 (bl s)=(acc++[((ra,rb),y.size+1)])++aT (60 - (m.length+1)) (m.length+1) ((bl s).drop (a+(y.size+1)))):=fun ra rb h=>by
      have e1:=dz (n:=n) h1 (by rw [← hyb]; exact h)
      have e2:60 - (m.length+1)=n:=by omega
      rw [HF.out,e1,e2,← hyz,hbx,List.drop_drop]
      simp
     have i3:(a:Int)+(y.size:Int)+1≤(s.size:Int):=by omega
     clear DONE h1 hx hbx hn hp hxl hyb hyz hy hps hps0 hlen hn0
     go_wp2_with fail
     refine (HSp.out _).mono ?_
     rintro e w3 ⟨A3,c3,rfl,hO3,hb3⟩
     obtain ⟨g3,rfl,x0,hg3,hg3'⟩:=HFirst.out _ _ _ _ hO3
     go_wp2_with fail
     refine (HDc.out _).mono ?_
     rintro e w4 ⟨ra,rb,ok,rfl,hdec,hb4⟩
     obtain ⟨_,hgg,x4,_,_⟩:=HFirst.out _ _ _ _ (ab hO3 (hb4.alloc hb4.size (.cells #[.string ra,.string rb] 62)))
     injection hgg with hgg; injection hgg with hgg _; subst hgg
     clear x0
     have hb34:=ar hb3 (hb4.alloc hb4.size (.cells #[.string ra,.string rb] 62))
     cases ok
     ·have HD:=Lib.hid (HBad.out (by rcases hdec with ⟨h,_⟩ | ⟨_,h⟩; cases h; exact h) _ hb34)
      clear hdec hO3
      go_wp2_with fail
      go_ret2
      exact HD.out
     ·have hdec' : dx m.length (bl y)=some (bl ra,bl rb):=by rcases hdec with ⟨_,h⟩ | ⟨h,_⟩; exact h; cases h
      have HF2:=Lib.hid (HGood.out _ _ hdec')
      clear hdec hdec'
      have HR4:=Lib.hid (ab HR.out hb34)
      have HO3:=Lib.hid (ab hO3 (hb4.alloc hb4.size (.cells #[.string ra,.string rb] 62)))
      clear hO3
      have hqs:=q.size
      have hsz4:w.heap.size≤(w4.alloc (.cells #[.string ra,.string rb] 62)).heap.size:=Nat.le_trans hqs hb34.size
      go_wp2_with (at_builtin; refine bU (w0:=w4.alloc (.cells #[.string ra,.string rb] 62)) rfl (.tmp 39) (.tmp 41) 58 rfl 62 _ 2 32 Tryz.underlying58 qn rfl (by omega) (by omega) w.heap.size _ _ _ rfl HR4 #[.string ra,.string rb] 1 _ rfl (by first | rfl | simp | exact Array.size_push _) rfl (by simp [Value.oneCell']) (by omega) hsz4 rfl rfl rfl rfl ?_; intro v5 w5 HO5 hg5 hb5; obtain ⟨_,hgg,x5,_,_⟩:=HFirst.out _ _ _ _ (dX HO3.out HR4.out (show (62:TypeId) ≠ 9 by decide) hg5); injection hgg with hgg; injection hgg with hgg _; subst hgg)
      obtain ⟨A5,c5,hv5⟩:=aw HO5.out
      subst hv5
      go_roundw
      case rel =>
       refine ⟨a+(y.size+1),A5,c5,m++[⟨ra,rb⟩],acc++[((bl ra,bl rb),y.size+1)],by simp; omega,by omega,by simp,by go_num,⟨(q.go (Nat.le_refl _) hb34).go' hb5,rfl⟩, ?_, ?_, ?_, ?_⟩
       ·have h1:=HA.out; unfold ed at h1; unfold ed Hid; simp [h1]
       ·have h1:=HL.out; unfold Hid; rw [← h1]; simp [dy]
       ·have h1:=HF2.out; rw [Hid]; simpa using h1
       ·have h1:=HO5.out; rw [Hid]; simpa [da.enc] using h1
      case measure=>simp [lenOf]; omega
    ·obtain rfl:n0=1:=by rw [hps0.2 h1] at hlen; exact hlen
     have HD:=Lib.hid (DONE (dU h1))
     clear DONE h1 hx hbx hn hyb hyz hps hps0 hlen hn0
     go_wp2_with fail
     refine (HSp.out _).mono ?_
     rintro e w3 ⟨A3,c3,rfl,hO3,hb3⟩
     obtain ⟨g3,rfl,x0,hg3,hg3'⟩:=HFirst.out _ _ _ _ hO3
     clear hO3
     go_wp2_with fail
     refine (HDc.out _).mono ?_
     rintro e w4 ⟨ra,rb,ok,rfl,hdec,hb4⟩
     clear hdec
     have hb34:=ar hb3 (hb4.alloc hb4.size (.cells #[.string ra,.string rb] 62))
     have HD4:=Lib.hid (HD.out _ hb34)
     go_wp2_with fail
     go_ret2
     exact HD4.out
   ·have HD:Hid (fR s w (.returned (.tuple #[.slice A m.length c,.int .i64 (a:Nat)])) q.val):=DONE (by rw [show 60 - m.length=0 by omega]; rfl) _ (Below.refl _ _)
    clear DONE
    go_wp2
    go_ret2
    exact HD.out
  ·have HD:Hid (fR s w (.returned (.tuple #[.slice A m.length c,.int .i64 (a:Nat)])) q.val):=DONE (dU (by rw [List.drop_eq_nil_of_le (by rw [ap]; omega)]; simp)) _ (Below.refl _ _)
   clear DONE
   go_wp2
   go_ret2
   exact HD.out
set_option maxRecDepth 100000 in
set_option maxHeartbeats 4000000 in
theorem iu (l:Lg) (w:World) (hs:l.D.size+l.P.size≤2000000) :
  Calls Tryz.prog 40 #[l.val] w fun e w'=>e=.returned (.bool l.ok)∧Below w.heap.size w w':=by
 have b1:=(Below.refl w.heap.size w).alloc (Nat.le_refl _) (.cells #[sQ l.D,sQ l.P,O U l.n] 27)
 have L1:=ai.new w 27 #[sQ l.D,sQ l.P,O U l.n]
 have hbl:bl (l.D++l.P)=bl l.D++bl l.P:=du _ _
 have hz:(l.D++l.P).size=l.D.size+l.P.size:=dK _ _
 have hok:=@dA (bl l.D) (bl l.P) l.n
 rw [← hbl] at hok
 rw [ap,ap] at hok
 by_cases hbig:30000 < l.D.size+l.P.size
 ·have HOK:Hid (l.ok=false):=by
   unfold Hid Lg.ok
   rw [Bool.eq_false_iff]
   intro h
   have h1:=gA (by rw [← hbl,ap,ap]; exact (hok.1 h).1)
   rw [ap,ap] at h1; omega
  have d0:decide (30000 < (l.D.size:Int)+(l.P.size:Int))=true:=decide_eq_true (by omega)
  clear hok hbig
  go_enter Tryz.func40,Tryz.ntmps40
  go_wp2_with fail
  go_ret
  exact ⟨by rw [HOK.out]; rfl,b1⟩
 ·have d0:decide (30000 < (l.D.size:Int)+(l.P.size:Int))=false:=decide_eq_false (by omega)
  have hs3:l.D.size+l.P.size≤30000:=by omega
  have HA:=Lib.hid (fun W=>iS (l.D++l.P) W (by omega))
  have HB:=Lib.hid (fun W=>iS l.D W (by omega))
  have hlen:=dh 60 0 (bl (l.D++l.P))
  have hroom:=ic 60 0 (bl (l.D++l.P))
  have hroomD:=ic 60 0 (bl l.D)
  rw [ap] at hroom hroomD
  obtain ⟨k0,hk0⟩ : ∃ k0,k0=(aT 60 0 (bl (l.D++l.P))).length:=⟨_,rfl⟩
  obtain ⟨z,hzz⟩ : ∃ z,z=dy (aT 60 0 (bl (l.D++l.P))):=⟨_,rfl⟩
  obtain ⟨y,hyy⟩ : ∃ y,y=dy (aT 60 0 (bl l.D)):=⟨_,rfl⟩
  have HA2:Hid (∀ W,Calls Tryz.prog 77 #[sQ (l.D++l.P)] W fun e w'=>∃ A c k,k=k0∧e=.returned (.tuple #[F A k c,O U (z:Nat)])∧Below W.heap.size W w'):=fun W=>by
   refine (HA.out W).mono ?_
   rintro e w' ⟨A,c,m,rfl,hm,_,hb⟩
   exact ⟨A,c,m.length,by rw [jt hm,hk0],by rw [hzz],hb⟩
  have HB2:Hid (∀ W,Calls Tryz.prog 77 #[sQ l.D] W fun e w'=>∃ A c k,e=.returned (.tuple #[F A k c,O U (y:Nat)])∧Below W.heap.size W w'):=fun W=>by
   refine (HB.out W).mono ?_
   rintro e w' ⟨A,c,m,rfl,hm,_,hb⟩
   exact ⟨A,c,m.length,by rw [hyy],hb⟩
  rw [← hk0,← hzz,← hyy] at hok
  rw [← hk0] at hlen
  rw [← hzz] at hroom
  rw [← hyy] at hroomD
  have HOK:Hid (l.ok=(decide (z=l.D.size+l.P.size) && decide (y=l.D.size) && decide ((k0:Int)=l.n))):=by
   unfold Hid Lg.ok
   rw [Bool.eq_iff_iff,hok]
   simp [and_assoc]
  clear hok hbl hk0 hzz hyy HA HB hbig
  go_enter Tryz.func40,Tryz.ntmps40
  go_wp2_with fail
  generalize w.alloc (.cells #[sQ l.D,sQ l.P,O U l.n] 27)=W at b1 L1 ⊢
  generalize hg:w.heap.size=g at L1 ⊢
  refine (HA2.out _).mono ?_
  rintro e w2 ⟨A,c,k,rfl,rfl,hb2⟩
  have L2:=L1.below hb2 L1.lt
  have c0:=L2.cell 0
  have c1:=L2.cell 1
  have c2:=L2.cell 2
  simp only [List.getElem?_cons_zero,List.getElem?_cons_succ] at c0 c1 c2
  clear L1
  go_wp2_with fail
  refine (HB2.out _).mono ?_
  rintro e w3 ⟨A',c',k',rfl,hb3⟩
  have L3:=L2.below hb3 L2.lt
  clear c0 c1 c2
  have c0:=L3.cell 0
  have c1:=L3.cell 1
  have c2:=L3.cell 2
  simp only [List.getElem?_cons_zero,List.getElem?_cons_succ] at c0 c1 c2
  have hbb:Below w.heap.size w w3:=by rw [← hg] at *; exact ar b1 (ar hb2 hb3)
  clear L2 L3
  by_cases e1:z=l.D.size+l.P.size
  ·rw [decide_eq_true e1] at HOK
   have d1:((z:Int) == (l.D.size:Int)+(l.P.size:Int))=true:=by rw [e1]; simp
   by_cases e2:y=l.D.size
   ·rw [decide_eq_true e2] at HOK
    have d2:((y:Int) == (l.D.size:Int))=true:=by rw [e2]; simp
    by_cases e3:(k:Int)=l.n
    ·rw [decide_eq_true e3] at HOK
     have d3:((k:Int) == l.n)=true:=by rw [e3]; simp
     clear e1 e2 e3
     go_wp2_with fail
     go_ret
     exact ⟨by rw [HOK.out]; rfl,hbb⟩
    ·rw [decide_eq_false e3] at HOK
     have d3:((k:Int) == l.n)=false:=by simp [e3]
     clear e1 e2 e3
     go_wp2_with fail
     go_ret
     exact ⟨by rw [HOK.out]; rfl,hbb⟩
   ·rw [decide_eq_false e2] at HOK
    have d2:((y:Int) == (l.D.size:Int))=false:=by simp; omega
    clear e1 e2
    go_wp2_with fail
    go_ret
    exact ⟨by rw [HOK.out]; rfl,hbb⟩
  ·rw [decide_eq_false e1] at HOK
   have d1:((z:Int) == (l.D.size:Int)+(l.P.size:Int))=false:=by simp; omega
   clear e1
   go_wp2_with fail
   go_ret
   exact ⟨by rw [HOK.out]; rfl,hbb⟩
end Go.Proofs.YtoeoimhemojdeaaGreatDoor
namespace Go.Proofs.YtoeoimhemojdeaaGreatDoor
open Go.ChangeShapes Go.WideShapes Go.ChangeAt Go.RowKit Go.Deep
section
variable {H:Type} {enc:TypeId × Value→H} {P:Program} {w:World} {base:Nat} {spare:Nat→Bool} {held:Bool}
theorem kW {e:TypeId} {fs:Array Field} {n:Nat} {cs:List Value} {x:DataW H × List MemPlace} (he:P.underlying e=some (.struct fs)) (hone:oneCellFields P fs=true) (hC:P.cellsOf e=fs.size)
  (h:DataW.trod enc P w base spare held n e cs=some x) :
  cs.length=fs.size∧∀ (j:Nat) (f:Field),fs[j]?=some f→∃ v m y,cs[j]?=some v∧DataW.trod enc P w base spare held m f.type [v]=some y:=by
 obtain ⟨ys,n',_,_,hlen,hyl,hf⟩:=DataW.trod_struct he h
 refine ⟨by rw [hlen,hC],fun j f hj=>?_⟩
 obtain ⟨ho,hk⟩:=hone_of hone j f hj
 have hjl:j < fs.size:=(Array.getElem?_eq_some_iff.1 hj).1
 have hjc:j < cs.length:=by rw [hlen,hC]; exact hjl
 have h1:=hf j f hj
 rw [ho,hk,List.drop_eq_getElem_cons hjc] at h1
 have hys:ys[j]?=some (ys[j]'(by omega)):=List.getElem?_eq_getElem (by omega)
 exact ⟨_,n',_,List.getElem?_eq_getElem hjc,h1.trans hys⟩
end
section
variable {H:Type} {enc:TypeId × Value→H} {P:Program} {w:World} {base:Nat} {spare:Nat→Bool} {held:Bool}
theorem oI {t:TypeId} {n:Nat} {v:Value} {x:DataW H × List MemPlace} (ht:P.underlying t=some (.int .i64)) (h:DataW.trod enc P w base spare held n t [v]=some x) :
  ∃ m:Int,v=.int .i64 m∧-9223372036854775808≤m∧m≤9223372036854775807:=by
 obtain ⟨m,e,_,hw⟩:=DataW.trod_int ht h
 refine ⟨m,by simpa using e, ?_⟩
 simp [Lit.wf,IntKind.min,IntKind.max,IntKind.signed,IntKind.bits] at hw
 omega
end
section
variable {H:Type} {enc:TypeId × Value→H} {P:Program} {w:World} {base:Nat} {spare:Nat→Bool} {held:Bool}
end
theorem sx {n:Int} (h:(Lit.int .i64 n).wf=true) : -9223372036854775808≤n:=by
 simp [Lit.wf,IntKind.min,IntKind.max,IntKind.signed,IntKind.bits] at h; omega
theorem sz {n:Int} (h:(Lit.int .i64 n).wf=true):n≤9223372036854775807:=by
 simp [Lit.wf,IntKind.min,IntKind.max,IntKind.signed,IntKind.bits] at h; omega
end Go.Proofs.YtoeoimhemojdeaaGreatDoor
namespace Go.Proofs.YtoeoimhemojdeaaGreatDoor
open Go.RowKit
def da.need (e:da):Nat:=e.c.size+e.r.size
def eD (k:Int) (n:Nat):Int:=if (n:Int)≤k then k - n else -1
def Lg.need (l:Lg):Nat:=l.D.size+l.P.size
theorem rQ {n:Nat} {k:Int} (h:(n:Int)≤k):eD k n=k - n:=by unfold eD; rw [if_pos h]
theorem rR {n:Nat} {k:Int} (h : ¬ (n:Int)≤k):eD k n = -1:=by unfold eD; rw [if_neg h]
set_option maxHeartbeats 1000000 in
theorem kw (l:Lg) (k:Int) (w:World) (h1:l.D.size≤9223372036854775807) (h2:l.P.size≤9223372036854775807) (hk:0≤k) (hk' : k≤1048576) :
  Calls Tryz.prog 9 #[l.val,O U k] w fun en w'=>en=.returned (O U (eD k l.need))∧Below w.heap.size w w':=by
 have hb0:=(Below.refl w.heap.size w).alloc (Nat.le_refl _) (.cells #[sQ l.D,sQ l.P,O U l.n] 23)
 by_cases ha:(l.D.size:Int)≤k
 ·have d1:decide (k - (l.D.size:Int) < 0)=false:=decide_eq_false (by omega)
  by_cases hb:(l.D.size:Int)+l.P.size≤k
  ·have d2:decide (k - (l.D.size:Int) - (l.P.size:Int) < 0)=false:=decide_eq_false (by omega)
   have HN:Hid (eD k l.need=k - (l.D.size:Int) - (l.P.size:Int)):=by unfold eD Lg.need Hid; rw [if_pos (by omega)]; omega
   clear hb
   go_enter Tryz.func9,Tryz.ntmps9
   go_wp2
   go_ret
   exact ⟨by rw [HN.out]; rfl,hb0⟩
  ·have d2:decide (k - (l.D.size:Int) - (l.P.size:Int) < 0)=true:=decide_eq_true (by omega)
   have HN:Hid (eD k l.need = -1):=by unfold eD Lg.need Hid; rw [if_neg (by omega)]
   clear hb
   go_enter Tryz.func9,Tryz.ntmps9
   go_wp2
   go_ret
   exact ⟨by rw [HN.out]; rfl,hb0⟩
 ·have d1:decide (k - (l.D.size:Int) < 0)=true:=decide_eq_true (by omega)
  have HN:Hid (eD k l.need = -1):=by unfold eD Lg.need Hid; rw [if_neg (by omega)]
  clear ha
  go_enter Tryz.func9,Tryz.ntmps9
  go_wp2
  go_ret
  exact ⟨by rw [HN.out]; rfl,hb0⟩
set_option maxHeartbeats 1000000 in
theorem kx (l:Lg) (w:World) :
  Calls Tryz.prog 11 #[l.val] w fun en w'=>en=.returned l.val∧Below w.heap.size w w':=by
 go_enter Tryz.func11,Tryz.ntmps11
 go_wp2
 refine bodyPost_ret (v:=l.val) (by simp [results,Tryz.results11,go_sem, *]) rfl ⟨rfl, ?_⟩
 repeat (first | exact Below.refl _ _ | refine Below.alloc ?_ (by simp; try omega) _ | refine Below.setCell ?_ (by simp; try omega) _)
abbrev aL (x:aM) (l:Lg):Value:=.agg #[F x.TA x.t.length x.tc,F x.OA x.o.length x.oc,O U x.got,O U x.sold,O U x.missed,sQ l.D,sQ l.P,O U l.n]
noncomputable def dD (x:aM) (l:Lg):Bool:=am x && l.ok
theorem ju {w:World} {g:Nat} {t:TypeId} {x:aM} {l:Lg} (h:ai w g t [F x.TA x.t.length x.tc,F x.OA x.o.length x.oc,O U x.got,O U x.sold,O U x.missed,sQ l.D,sQ l.P,O U l.n]) (hr:aQ w w.heap.size x):bT w w.heap.size g x :=
 ⟨⟨fun p=>(p.cell h.lt).trans (h.cell 0),fun p=>(p.cell h.lt).trans (h.cell 1),fun p=>(p.cell h.lt).trans (h.cell 2),fun p=>(p.cell h.lt).trans (h.cell 3),fun p=>(p.cell h.lt).trans (h.cell 4)⟩,h.lt,hr⟩
set_option maxHeartbeats 1000000 in
theorem fB (x:aM) (l:Lg) (w:World) (h:aQ w w.heap.size x) (hs:l.D.size+l.P.size≤2000000) :
  Calls Tryz.prog 45 #[aL x l] w fun e w'=>e=.returned (.bool (dD x l))∧Below w.heap.size w w':=by
 have b1:=(Below.refl w.heap.size w).alloc (Nat.le_refl _) (.cells #[F x.TA x.t.length x.tc,F x.OA x.o.length x.oc,O U x.got,O U x.sold,O U x.missed,sQ l.D,sQ l.P,O U l.n] 42)
 have L1:=ai.new w 42 #[F x.TA x.t.length x.tc,F x.OA x.o.length x.oc,O U x.got,O U x.sold,O U x.missed,sQ l.D,sQ l.P,O U l.n]
 have cO:=dp x _ (h.up b1 (Nat.le_refl _))
 have HC:Hid (dD x l=(am x && l.ok)):=rfl
 have cL:=fun W=>iu l W hs
 generalize am x=v1 at cO HC
 generalize l.ok=v2 at cL HC
 cases v1
 ·go_enter Tryz.func45,Tryz.ntmps45
  go_wp2_with fail
  refine cO.mono ?_
  rintro e w1 ⟨rfl,hb1⟩
  go_wp2_with fail
  go_ret
  exact ⟨by rw [HC.out]; rfl,ar b1 hb1⟩
 ·go_enter Tryz.func45,Tryz.ntmps45
  go_wp2_with fail
  refine cO.mono ?_
  rintro e w1 ⟨rfl,hb1⟩
  have M1:=L1.below hb1 L1.lt
  have c5:=M1.cell 5
  have c6:=M1.cell 6
  have c7:=M1.cell 7
  simp only [List.getElem?_cons_zero,List.getElem?_cons_succ] at c5 c6 c7
  go_wp2_with fail
  refine (cL _).mono ?_
  rintro e w2 ⟨rfl,hb2⟩
  go_wp2_with fail
  go_ret
  exact ⟨by rw [HC.out]; rfl,ar b1 (ar hb1 hb2)⟩
set_option maxHeartbeats 1000000 in
theorem dR (x:aM) (l:Lg) (w:World) (h:aQ w w.heap.size x) (hs:l.D.size+l.P.size≤2000000) (ht:hU w) :
  Calls Tryz.prog 28 #[aL x l] w fun e w'=>e=.returned (.bool (dD x l))∧Below w.heap.size w w':=by
 have b1:=(Below.refl w.heap.size w).alloc (Nat.le_refl _) (.cells #[F x.TA x.t.length x.tc,F x.OA x.o.length x.oc,O U x.got,O U x.sold,O U x.missed,sQ l.D,sQ l.P,O U l.n] 42)
 have L1:=ai.new w 42 #[F x.TA x.t.length x.tc,F x.OA x.o.length x.oc,O U x.got,O U x.sold,O U x.missed,sQ l.D,sQ l.P,O U l.n]
 have ht1:=ht.then b1
 have cO:=aX x _ _ (ju L1 (h.up b1 (Nat.le_refl _)))
 have HC:Hid (dD x l=(am x && l.ok)):=rfl
 have cL:=fun W hW=>gV l W hs hW
 generalize am x=v1 at cO HC
 generalize l.ok=v2 at cL HC
 cases v1
 ·go_enter Tryz.func28,Tryz.ntmps28
  go_wp2_with fail
  refine cO.mono ?_
  rintro e w1 ⟨rfl,hb1⟩
  go_wp2_with fail
  go_ret
  exact ⟨by rw [HC.out]; rfl,ar b1 hb1⟩
 ·go_enter Tryz.func28,Tryz.ntmps28
  go_wp2_with fail
  refine cO.mono ?_
  rintro e w1 ⟨rfl,hb1⟩
  have M1:=L1.below hb1 L1.lt
  have c5:=M1.cell 5
  have c6:=M1.cell 6
  have c7:=M1.cell 7
  simp only [List.getElem?_cons_zero,List.getElem?_cons_succ] at c5 c6 c7
  go_wp2_with fail
  refine (cL _ (ht1.then hb1)).mono ?_
  rintro e w2 ⟨rfl,hb2⟩
  go_wp2_with fail
  go_ret
  exact ⟨by rw [HC.out]; rfl,ar b1 (ar hb1 hb2)⟩
def aM.need (x:aM):Nat:=x.t.length+x.o.length
theorem l5 {x:aM} {l:Lg} (h:dD x l=true):bn x:=by
 unfold dD at h; rw [Bool.and_eq_true] at h; exact bm.1 h.1
noncomputable def dS (l:Lg) (e:da):Int:=if l.ok && e.ok then (if l.n=60 then 2 else 0) else 1
noncomputable def fG (l:Lg) (e:da):Lg:=if l.ok && e.ok then (if l.n=60 then l else ⟨l.D,l.P++⟨(co l.n.toNat (bl e.c) (bl e.r)).toArray⟩,l.n+1⟩) else l
theorem l6 {l:Lg} {e:da} (h:(l.ok && e.ok)=false):fG l e=l∧dS l e=1:=by unfold fG dS; rw [h]; exact ⟨rfl,rfl⟩
theorem jv {l:Lg} {e:da} (h:(l.ok && e.ok)=true) (hn:l.n=60):fG l e=l∧dS l e=2:=by unfold fG dS; rw [h,if_pos rfl,if_pos rfl,if_pos hn,if_pos hn]; exact ⟨rfl,rfl⟩
theorem ky {l:Lg} {e:da} (h:(l.ok && e.ok)=true) (hn:l.n ≠ 60):fG l e=⟨l.D,l.P++⟨(co l.n.toNat (bl e.c) (bl e.r)).toArray⟩,l.n+1⟩∧dS l e=0:=by unfold fG dS; rw [h,if_pos rfl,if_pos rfl,if_neg hn,if_neg hn]; exact ⟨rfl,rfl⟩
set_option maxRecDepth 100000 in
set_option maxHeartbeats 4000000 in
theorem l7 (l:Lg) (e:da) (w:World) (hs:l.D.size+l.P.size≤2000000) (h1:e.c.size≤1048576) (h2:e.r.size≤1048576) :
  Calls Tryz.prog 48 #[l.val,e.val] w fun en w'=>en=.returned (.tuple #[(fG l e).val,O U (dS l e)])∧Below w.heap.size w w':=by
 obtain ⟨D,P,n⟩:=l
 simp only at hs
 have hoff:=@dA (bl D) (bl P) n
 have hoff2:=dh 60 0 (bl D++bl P)
 have HV1:=Lib.hid (l6 (l:=⟨D,P,n⟩) (e:=e))
 have HV2:=Lib.hid (jv (l:=⟨D,P,n⟩) (e:=e))
 have HV3:=Lib.hid (ky (l:=⟨D,P,n⟩) (e:=e))
 have HS:=Lib.hid (fun W=>iu ⟨D,P,n⟩ W hs)
 have HG:=Lib.hid (fun W=>fA e W (by omega) (by omega))
 have b1:=(((Below.refl w.heap.size w).alloc (Nat.le_refl _) (.cells #[sQ D,sQ P,O U n] 27)).alloc (by simp) (.cells #[sQ e.c,sQ e.r] 62)).alloc (by simp; omega) (.cells #[sQ ⟨#[]⟩,sQ ⟨#[]⟩,O U 0] 27)
 have L1:=((ai.new w 27 #[sQ D,sQ P,O U n]).alloc (.cells #[sQ e.c,sQ e.r] 62)).alloc (.cells #[sQ ⟨#[]⟩,sQ ⟨#[]⟩,O U 0] 27)
 have E1:=(ai.new (w.alloc (.cells #[sQ D,sQ P,O U n] 27)) 62 #[sQ e.c,sQ e.r]).alloc (.cells #[sQ ⟨#[]⟩,sQ ⟨#[]⟩,O U 0] 27)
 have N1:=ai.new ((w.alloc (.cells #[sQ D,sQ P,O U n] 27)).alloc (.cells #[sQ e.c,sQ e.r] 62)) 27 #[sQ ⟨#[]⟩,sQ ⟨#[]⟩,O U 0]
 have hg1:(w.alloc (.cells #[sQ D,sQ P,O U n] 27)).heap.size=w.heap.size+1:=by simp
 have hg2:((w.alloc (.cells #[sQ D,sQ P,O U n] 27)).alloc (.cells #[sQ e.c,sQ e.r] 62)).heap.size=w.heap.size+2:=by simp
 rw [hg1] at E1
 rw [hg2] at N1
 clear hg1 hg2
 go_enter Tryz.func48,Tryz.ntmps48
 go_wp2_with fail
 generalize ((w.alloc (.cells #[sQ D,sQ P,O U n] 27)).alloc (.cells #[sQ e.c,sQ e.r] 62)).alloc (.cells #[sQ ⟨#[]⟩,sQ ⟨#[]⟩,O U 0] 27)=W at b1 L1 E1 N1 ⊢
 generalize hg:w.heap.size=g at L1 E1 N1 ⊢
 refine (HS.out _).mono ?_
 rintro en w2 ⟨rfl,hb2⟩
 have L2:=L1.below hb2 L1.lt
 have E2:=E1.below hb2 E1.lt
 have N2:=N1.below hb2 N1.lt
 have c20:=L2.cell 0
 have c21:=L2.cell 1
 have c22:=L2.cell 2
 have e20:=E2.cell 0
 have e21:=E2.cell 1
 have n20:=N2.cell 0
 have n21:=N2.cell 1
 have n22:=N2.cell 2
 have f20:=N2.frozen 0
 have f21:=N2.frozen 1
 have f22:=N2.frozen 2
 have hl2:=L2.lt
 have he2:=E2.lt
 have hn2:=N2.lt
 simp only [List.getElem?_cons_zero,List.getElem?_cons_succ] at c20 c21 c22 e20 e21 n20 n21 n22
 have hbb2:Below w.heap.size w w2:=by rw [← hg] at *; exact ar b1 hb2
 cases hok:Lg.ok ⟨D,P,n⟩
 ·have HK:=Lib.hid (HV1.out (by rw [hok]; rfl))
  clear hok hoff hoff2 L1 E1 N1 L2 E2 N2
  go_wp2_with fail
  refine bodyPost_ret (v:=.tuple #[.agg #[sQ D,sQ P,O U n],O U 1]) (by simp [results,Tryz.results48,go_sem, *]) rfl ⟨by rw [HK.out.1,HK.out.2], ?_⟩
  refine hbb2.trans ?_
  repeat (first | exact Below.refl _ _ | refine Below.alloc ?_ (by simp; omega) _ | refine Below.setCell ?_ (by simp; omega) _)
 ·have hof:=hoff.1 hok
  clear hoff
  obtain ⟨k,hk⟩ : ∃ k:Nat,n=(k:Int):=⟨_,hof.2.2.symm⟩
  have hk60:k≤60:=by have:=hof.2.2; omega
  clear hoff2 hof
  subst hk
  go_wp2_with fail
  refine (HG.out _).mono ?_
  rintro en w3 ⟨rfl,hb3⟩
  clear c20 c21 c22 e20 e21 n20 n21 n22 f20 f21 f22 hl2 he2 hn2
  have L3:=L2.below hb3 L2.lt
  have E3:=E2.below hb3 E2.lt
  have N3:=N2.below hb3 N2.lt
  have c30:=L3.cell 0
  have c31:=L3.cell 1
  have c32:=L3.cell 2
  have e30:=E3.cell 0
  have e31:=E3.cell 1
  have n30:=N3.cell 0
  have n31:=N3.cell 1
  have n32:=N3.cell 2
  have f30:=N3.frozen 0
  have f31:=N3.frozen 1
  have f32:=N3.frozen 2
  have hl3:=L3.lt
  have he3:=E3.lt
  have hn3:=N3.lt
  simp only [List.getElem?_cons_zero,List.getElem?_cons_succ] at c30 c31 c32 e30 e31 n30 n31 n32
  have hbb3:Below w.heap.size w w3:=ar hbb2 hb3
  clear L1 E1 N1 L2 E2 N2
  cases hek:e.ok
  ·have HK:=Lib.hid (HV1.out (by rw [hok,hek]; rfl))
   clear hok hek L3 E3 N3
   go_wp2_with fail
   refine bodyPost_ret (v:=.tuple #[.agg #[sQ D,sQ P,O U (k:Int)],O U 1]) (by simp [results,Tryz.results48,go_sem, *]) rfl ⟨by rw [HK.out.1,HK.out.2], ?_⟩
   refine hbb3.trans ?_
   repeat (first | exact Below.refl _ _ | refine Below.alloc ?_ (by simp; omega) _ | refine Below.setCell ?_ (by simp; omega) _)
  ·by_cases hfull:k=60
   ·have HK:=Lib.hid (HV2.out (by rw [hok,hek]; rfl) (by simp [hfull]))
    have d1:((k:Int) == 60)=true:=by rw [hfull]; rfl
    clear hok hek L3 E3 N3 hfull
    go_wp2_with fail
    refine bodyPost_ret (v:=.tuple #[.agg #[sQ D,sQ P,O U (k:Int)],O U 2]) (by simp [results,Tryz.results48,go_sem, *]) rfl ⟨by rw [HK.out.1,HK.out.2], ?_⟩
    refine hbb3.trans ?_
    repeat (first | exact Below.refl _ _ | refine Below.alloc ?_ (by simp; omega) _ | refine Below.setCell ?_ (by simp; omega) _)
   ·have HK:=Lib.hid (HV3.out (by rw [hok,hek]; rfl) (by simp; omega))
    have d1:((k:Int) == 60)=false:=by simp; omega
    obtain ⟨ln,hln⟩ : ∃ ln:ByteArray,ln=⟨(co k (bl e.c) (bl e.r)).toArray⟩:=⟨_,rfl⟩
    have hlz:ln.size≤100000000:=by rw [hln,← ap,bM]; have:=lE (k:=k) (c:=bl e.c) (r:=bl e.r) hek (by omega); omega
    have HLn:Hid (∀ W,Calls Tryz.prog 90 #[O U (k:Int),e.val] W fun en w'=>en=.returned (sQ ln)∧Below W.heap.size W w'):=fun W=>by
     rw [hln]; exact kV k e W (by omega) (by have:=(cP.1 hek).2.1; rw [ap] at this; omega) (by have:=(cP.1 hek).2.2.2.2.2; rw [ap] at this; omega)
    have HK2:Hid (fG ⟨D,P,(k:Int)⟩ e=⟨D,P++ln,(k:Int)+1⟩∧dS ⟨D,P,(k:Int)⟩ e=0):=by
     have h:=HK.out
     rw [Int.toNat_natCast,← hln] at h; exact h
    clear HK hok hek hln hfull HV1 HV2 HV3
    go_wp2_with fail
    have hgw:w.heap.size≤g:=by omega
    refine eu (fun W9=>ai W9 g 27 [sQ D,sQ P,O U (k:Int)]∧ai W9 (g+1) 62 [sQ e.c,sQ e.r]∧ai W9 (g+1+1) 27 [sQ ⟨#[]⟩,sQ ⟨#[]⟩,O U 0]∧Below w.heap.size w W9) (fun _ _=>True) (by kernel_rfl) (by kernel_rfl) (by kernel_rfl) (by kernel_rfl) ⟨L3.below (Below.refl _ _).drew L3.lt,E3.below (Below.refl _ _).drew E3.lt,N3.below (Below.refl _ _).drew N3.lt,hbb3.drew⟩ ?_
    simp only [ax,Act.put,List.setIfInBounds_toArray,List.set_cons_zero,List.set_cons_succ,Nat.zero_add,Nat.reduceAdd]
    clear L3 E3 N3 c30 c31 c32 e30 e31 n30 n31 n32 f30 f31 f32 hl3 he3 hn3
    refine aD (.pointer (some ⟨g,1,none⟩)) (fun vs w9 hC9 hB K9 hK9=>?_) ?_
    ·go_simp
     exact hK9 _ _ rfl hC9 trivial
    refine aD (sQ P) (fun vs w9 hC9 hB K9 hK9=>?_) ?_
    ·have hd0:=hB 0 _ (by kernel_rfl) rfl
     simp only [hd0] at hK9 ⊢
     have q1:w9.cell? ⟨g,1,none⟩=some (sQ P):=hC9.1.cell 1
     go_simp
     exact hK9 _ _ rfl hC9 trivial
    refine aD (.pointer (some ⟨g,2,none⟩)) (fun vs w9 hC9 hB K9 hK9=>?_) ?_
    ·go_simp
     exact hK9 _ _ rfl hC9 trivial
    refine aD (O U (k:Int)) (fun vs w9 hC9 hB K9 hK9=>?_) ?_
    ·have hd2:=hB 2 _ (by kernel_rfl) rfl
     simp only [hd2] at hK9 ⊢
     have q1:w9.cell? ⟨g,2,none⟩=some (O U (k:Int)):=hC9.1.cell 2
     go_simp
     exact hK9 _ _ rfl hC9 trivial
    refine aD (.agg #[sQ e.c,sQ e.r]) (fun vs w9 hC9 hB K9 hK9=>?_) ?_
    ·have q0:w9.cell? ⟨g+1,0,none⟩=some (sQ e.c):=hC9.2.1.cell 0
     have q1:w9.cell? ⟨g+1,1,none⟩=some (sQ e.r):=hC9.2.1.cell 1
     go_simp
     exact hK9 _ _ rfl hC9 trivial
    refine aD (sQ ln) (fun vs w9 hC9 hB K9 hK9=>?_) ?_
    ·have hd3:=hB 3 _ (by kernel_rfl) rfl
     have hd4:=hB 4 _ (by kernel_rfl) rfl
     simp only [hd3,hd4] at hK9 ⊢
     go_simp
     refine (HLn.out _).mono ?_
     rintro en w8 ⟨rfl,hb8⟩
     exact hK9 _ _ rfl ⟨hC9.1.below hb8 hC9.1.lt,hC9.2.1.below hb8 hC9.2.1.lt,hC9.2.2.1.below hb8 hC9.2.2.1.lt,hC9.2.2.2.trans (hb8.mono hC9.2.2.2.size)⟩ trivial
    refine aD (sQ (P++ln)) (fun vs w9 hC9 hB K9 hK9=>?_) ?_
    ·have hd1:=hB 1 _ (by kernel_rfl) rfl
     have hd5:=hB 5 _ (by kernel_rfl) rfl
     simp only [hd1,hd5] at hK9 ⊢
     go_simp
     (first | (rw [if_neg (by omega)]; go_simp) | skip)
     exact hK9 _ _ rfl hC9 trivial
    refine aD (.pointer (some ⟨g,1,none⟩)) (fun vs w9 hC9 hB K9 hK9=>?_) ?_
    ·go_simp
     exact hK9 _ _ rfl hC9 trivial
    refine ft (fun vs w9 hC9 hB K9 hK9=>?_)
    have hd6:=hB 6 _ rfl
    have hd7:=hB 7 _ rfl
    simp only [hd6,hd7] at hK9 ⊢
    obtain ⟨L9,E9,N9,B9⟩:=hC9
    have c91:=L9.cell 1
    have f91:=L9.frozen 1
    simp only [List.getElem?_cons_zero,List.getElem?_cons_succ] at c91
    go_simp
    refine hK9 _ _ ?_
    have L4:=L9.set 1 (sQ (P++ln))
    have E4:=E9.other (p:=⟨g,1,none⟩) (by simp) (sQ (P++ln))
    have N4:=N9.other (p:=⟨g,1,none⟩) (by simp; omega) (sQ (P++ln))
    have B4:=B9.setCell (p:=⟨g,1,none⟩) hgw (sQ (P++ln))
    generalize w9.setCell ⟨g,1,none⟩ (sQ (P++ln))=w4 at L4 E4 N4 B4 ⊢
    simp only [List.set_cons_zero,List.set_cons_succ] at L4
    have ff2:=L4.frozen 2
    clear c91 f91 L9 E9 N9 B9 hB hK9
    have c40:=L4.cell 0
    have c41:=L4.cell 1
    have c42:=L4.cell 2
    have e40:=E4.cell 0
    have e41:=E4.cell 1
    have n40:=N4.cell 0
    have n41:=N4.cell 1
    have n42:=N4.cell 2
    have f40:=N4.frozen 0
    have f41:=N4.frozen 1
    have f42:=N4.frozen 2
    have hl4:=L4.lt
    have he4:=E4.lt
    have hn4:=N4.lt
    simp only [List.getElem?_cons_zero,List.getElem?_cons_succ] at c40 c41 c42 e40 e41 n40 n41 n42
    have hlt4:(P++ln).size=P.size+ln.size:=dK _ _
    clear L4 E4 N4
    go_wp2_with fail
    refine bodyPost_ret (v:=.tuple #[.agg #[sQ D,sQ (P++ln),O U ((k:Int)+1)],O U 0]) (by simp [results,Tryz.results48,go_sem, *]) rfl ⟨by rw [HK2.out.1,HK2.out.2], ?_⟩
    refine B4.trans ?_
    repeat (first | exact Below.refl _ _ | refine Below.alloc ?_ (by simp; omega) _ | refine Below.setCell ?_ (by simp; omega) _)
set_option maxRecDepth 100000 in
set_option maxHeartbeats 4000000 in
theorem l8 (l:Lg) (e:da) (w:World) (hs:l.D.size+l.P.size≤2000000) (h1:e.c.size≤1048576) (h2:e.r.size≤1048576) (ht:hU w) :
  Calls Tryz.prog 53 #[l.val,e.val] w fun en w'=>en=.returned (.tuple #[(fG l e).val,O U (dS l e)])∧Below w.heap.size w w':=by
 obtain ⟨D,P,n⟩:=l
 simp only at hs
 have hoff:=@dA (bl D) (bl P) n
 have hoff2:=dh 60 0 (bl D++bl P)
 have HV1:=Lib.hid (l6 (l:=⟨D,P,n⟩) (e:=e))
 have HV2:=Lib.hid (jv (l:=⟨D,P,n⟩) (e:=e))
 have HV3:=Lib.hid (ky (l:=⟨D,P,n⟩) (e:=e))
 have HS:=Lib.hid (fun W hW=>gV ⟨D,P,n⟩ W hs hW)
 have HG:=Lib.hid (fun W=>ew e W (by omega) (by omega))
 have b1:=(((Below.refl w.heap.size w).alloc (Nat.le_refl _) (.cells #[sQ D,sQ P,O U n] 27)).alloc (by simp) (.cells #[sQ e.c,sQ e.r] 62)).alloc (by simp; omega) (.cells #[sQ ⟨#[]⟩,sQ ⟨#[]⟩,O U 0] 27)
 have L1:=((ai.new w 27 #[sQ D,sQ P,O U n]).alloc (.cells #[sQ e.c,sQ e.r] 62)).alloc (.cells #[sQ ⟨#[]⟩,sQ ⟨#[]⟩,O U 0] 27)
 have E1:=(ai.new (w.alloc (.cells #[sQ D,sQ P,O U n] 27)) 62 #[sQ e.c,sQ e.r]).alloc (.cells #[sQ ⟨#[]⟩,sQ ⟨#[]⟩,O U 0] 27)
 have N1:=ai.new ((w.alloc (.cells #[sQ D,sQ P,O U n] 27)).alloc (.cells #[sQ e.c,sQ e.r] 62)) 27 #[sQ ⟨#[]⟩,sQ ⟨#[]⟩,O U 0]
 have hg1:(w.alloc (.cells #[sQ D,sQ P,O U n] 27)).heap.size=w.heap.size+1:=by simp
 have hg2:((w.alloc (.cells #[sQ D,sQ P,O U n] 27)).alloc (.cells #[sQ e.c,sQ e.r] 62)).heap.size=w.heap.size+2:=by simp
 rw [hg1] at E1
 rw [hg2] at N1
 have ht1:=ht.then b1
 clear hg1 hg2
 go_enter Tryz.func53,Tryz.ntmps53
 go_wp2_with fail
 generalize ((w.alloc (.cells #[sQ D,sQ P,O U n] 27)).alloc (.cells #[sQ e.c,sQ e.r] 62)).alloc (.cells #[sQ ⟨#[]⟩,sQ ⟨#[]⟩,O U 0] 27)=W at ht1 b1 L1 E1 N1 ⊢
 generalize hg:w.heap.size=g at L1 E1 N1 ⊢
 refine (HS.out _ ht1).mono ?_
 rintro en w2 ⟨rfl,hb2⟩
 have L2:=L1.below hb2 L1.lt
 have E2:=E1.below hb2 E1.lt
 have N2:=N1.below hb2 N1.lt
 have c20:=L2.cell 0
 have c21:=L2.cell 1
 have c22:=L2.cell 2
 have e20:=E2.cell 0
 have e21:=E2.cell 1
 have n20:=N2.cell 0
 have n21:=N2.cell 1
 have n22:=N2.cell 2
 have f20:=N2.frozen 0
 have f21:=N2.frozen 1
 have f22:=N2.frozen 2
 have hl2:=L2.lt
 have he2:=E2.lt
 have hn2:=N2.lt
 simp only [List.getElem?_cons_zero,List.getElem?_cons_succ] at c20 c21 c22 e20 e21 n20 n21 n22
 have hbb2:Below w.heap.size w w2:=by rw [← hg] at *; exact ar b1 hb2
 cases hok:Lg.ok ⟨D,P,n⟩
 ·have HK:=Lib.hid (HV1.out (by rw [hok]; rfl))
  clear hok hoff hoff2 L1 E1 N1 L2 E2 N2
  go_wp2_with fail
  refine bodyPost_ret (v:=.tuple #[.agg #[sQ D,sQ P,O U n],O U 1]) (by simp [results,Tryz.results53,go_sem, *]) rfl ⟨by rw [HK.out.1,HK.out.2], ?_⟩
  refine hbb2.trans ?_
  repeat (first | exact Below.refl _ _ | refine Below.alloc ?_ (by simp; omega) _ | refine Below.setCell ?_ (by simp; omega) _)
 ·have hof:=hoff.1 hok
  clear hoff
  obtain ⟨k,hk⟩ : ∃ k:Nat,n=(k:Int):=⟨_,hof.2.2.symm⟩
  have hk60:k≤60:=by have:=hof.2.2; omega
  clear hoff2 hof
  subst hk
  go_wp2_with fail
  refine (HG.out _).mono ?_
  rintro en w3 ⟨rfl,hb3⟩
  clear c20 c21 c22 e20 e21 n20 n21 n22 f20 f21 f22 hl2 he2 hn2
  have L3:=L2.below hb3 L2.lt
  have E3:=E2.below hb3 E2.lt
  have N3:=N2.below hb3 N2.lt
  have c30:=L3.cell 0
  have c31:=L3.cell 1
  have c32:=L3.cell 2
  have e30:=E3.cell 0
  have e31:=E3.cell 1
  have n30:=N3.cell 0
  have n31:=N3.cell 1
  have n32:=N3.cell 2
  have f30:=N3.frozen 0
  have f31:=N3.frozen 1
  have f32:=N3.frozen 2
  have hl3:=L3.lt
  have he3:=E3.lt
  have hn3:=N3.lt
  simp only [List.getElem?_cons_zero,List.getElem?_cons_succ] at c30 c31 c32 e30 e31 n30 n31 n32
  have hbb3:Below w.heap.size w w3:=ar hbb2 hb3
  clear L1 E1 N1 L2 E2 N2
  cases hek:e.ok
  ·have HK:=Lib.hid (HV1.out (by rw [hok,hek]; rfl))
   clear hok hek L3 E3 N3
   go_wp2_with fail
   refine bodyPost_ret (v:=.tuple #[.agg #[sQ D,sQ P,O U (k:Int)],O U 1]) (by simp [results,Tryz.results53,go_sem, *]) rfl ⟨by rw [HK.out.1,HK.out.2], ?_⟩
   refine hbb3.trans ?_
   repeat (first | exact Below.refl _ _ | refine Below.alloc ?_ (by simp; omega) _ | refine Below.setCell ?_ (by simp; omega) _)
  ·by_cases hfull:k=60
   ·have HK:=Lib.hid (HV2.out (by rw [hok,hek]; rfl) (by simp [hfull]))
    have d1:((k:Int) == 60)=true:=by rw [hfull]; rfl
    clear hok hek L3 E3 N3 hfull
    go_wp2_with fail
    refine bodyPost_ret (v:=.tuple #[.agg #[sQ D,sQ P,O U (k:Int)],O U 2]) (by simp [results,Tryz.results53,go_sem, *]) rfl ⟨by rw [HK.out.1,HK.out.2], ?_⟩
    refine hbb3.trans ?_
    repeat (first | exact Below.refl _ _ | refine Below.alloc ?_ (by simp; omega) _ | refine Below.setCell ?_ (by simp; omega) _)
   ·have HK:=Lib.hid (HV3.out (by rw [hok,hek]; rfl) (by simp; omega))
    have d1:((k:Int) == 60)=false:=by simp; omega
    obtain ⟨ln,hln⟩ : ∃ ln:ByteArray,ln=⟨(co k (bl e.c) (bl e.r)).toArray⟩:=⟨_,rfl⟩
    have hlz:ln.size≤100000000:=by rw [hln,← ap,bM]; have:=lE (k:=k) (c:=bl e.c) (r:=bl e.r) hek (by omega); omega
    have HLn:Hid (∀ W,hU W→Calls Tryz.prog 100 #[O U (k:Int),e.val] W fun en w'=>en=.returned (sQ ln)∧Below W.heap.size W w'):=fun W hW=>by
     rw [hln]; exact ks k e W (by omega) hek hW
    have HK2:Hid (fG ⟨D,P,(k:Int)⟩ e=⟨D,P++ln,(k:Int)+1⟩∧dS ⟨D,P,(k:Int)⟩ e=0):=by
     have h:=HK.out
     rw [Int.toNat_natCast,← hln] at h; exact h
    clear HK hok hek hln hfull HV1 HV2 HV3
    go_wp2_with fail
    have hgw:w.heap.size≤g:=by omega
    refine eu (fun W9=>ai W9 g 27 [sQ D,sQ P,O U (k:Int)]∧ai W9 (g+1) 62 [sQ e.c,sQ e.r]∧ai W9 (g+1+1) 27 [sQ ⟨#[]⟩,sQ ⟨#[]⟩,O U 0]∧Below w.heap.size w W9) (fun _ _=>True) (by kernel_rfl) (by kernel_rfl) (by kernel_rfl) (by kernel_rfl) ⟨L3.below (Below.refl _ _).drew L3.lt,E3.below (Below.refl _ _).drew E3.lt,N3.below (Below.refl _ _).drew N3.lt,hbb3.drew⟩ ?_
    simp only [ax,Act.put,List.setIfInBounds_toArray,List.set_cons_zero,List.set_cons_succ,Nat.zero_add,Nat.reduceAdd]
    clear L3 E3 N3 c30 c31 c32 e30 e31 n30 n31 n32 f30 f31 f32 hl3 he3 hn3
    refine aD (.pointer (some ⟨g,1,none⟩)) (fun vs w9 hC9 hB K9 hK9=>?_) ?_
    ·go_simp
     exact hK9 _ _ rfl hC9 trivial
    refine aD (sQ P) (fun vs w9 hC9 hB K9 hK9=>?_) ?_
    ·have hd0:=hB 0 _ (by kernel_rfl) rfl
     simp only [hd0] at hK9 ⊢
     have q1:w9.cell? ⟨g,1,none⟩=some (sQ P):=hC9.1.cell 1
     go_simp
     exact hK9 _ _ rfl hC9 trivial
    refine aD (.pointer (some ⟨g,2,none⟩)) (fun vs w9 hC9 hB K9 hK9=>?_) ?_
    ·go_simp
     exact hK9 _ _ rfl hC9 trivial
    refine aD (O U (k:Int)) (fun vs w9 hC9 hB K9 hK9=>?_) ?_
    ·have hd2:=hB 2 _ (by kernel_rfl) rfl
     simp only [hd2] at hK9 ⊢
     have q1:w9.cell? ⟨g,2,none⟩=some (O U (k:Int)):=hC9.1.cell 2
     go_simp
     exact hK9 _ _ rfl hC9 trivial
    refine aD (.agg #[sQ e.c,sQ e.r]) (fun vs w9 hC9 hB K9 hK9=>?_) ?_
    ·have q0:w9.cell? ⟨g+1,0,none⟩=some (sQ e.c):=hC9.2.1.cell 0
     have q1:w9.cell? ⟨g+1,1,none⟩=some (sQ e.r):=hC9.2.1.cell 1
     go_simp
     exact hK9 _ _ rfl hC9 trivial
    refine aD (sQ ln) (fun vs w9 hC9 hB K9 hK9=>?_) ?_
    ·have hd3:=hB 3 _ (by kernel_rfl) rfl
     have hd4:=hB 4 _ (by kernel_rfl) rfl
     simp only [hd3,hd4] at hK9 ⊢
     go_simp
     refine (HLn.out _ (ht.then hC9.2.2.2)).mono ?_
     rintro en w8 ⟨rfl,hb8⟩
     exact hK9 _ _ rfl ⟨hC9.1.below hb8 hC9.1.lt,hC9.2.1.below hb8 hC9.2.1.lt,hC9.2.2.1.below hb8 hC9.2.2.1.lt,hC9.2.2.2.trans (hb8.mono hC9.2.2.2.size)⟩ trivial
    refine aD (sQ (P++ln)) (fun vs w9 hC9 hB K9 hK9=>?_) ?_
    ·have hd1:=hB 1 _ (by kernel_rfl) rfl
     have hd5:=hB 5 _ (by kernel_rfl) rfl
     simp only [hd1,hd5] at hK9 ⊢
     go_simp
     (first | (rw [if_neg (by omega)]; go_simp) | skip)
     exact hK9 _ _ rfl hC9 trivial
    refine aD (.pointer (some ⟨g,1,none⟩)) (fun vs w9 hC9 hB K9 hK9=>?_) ?_
    ·go_simp
     exact hK9 _ _ rfl hC9 trivial
    refine ft (fun vs w9 hC9 hB K9 hK9=>?_)
    have hd6:=hB 6 _ rfl
    have hd7:=hB 7 _ rfl
    simp only [hd6,hd7] at hK9 ⊢
    obtain ⟨L9,E9,N9,B9⟩:=hC9
    have c91:=L9.cell 1
    have f91:=L9.frozen 1
    simp only [List.getElem?_cons_zero,List.getElem?_cons_succ] at c91
    go_simp
    refine hK9 _ _ ?_
    have L4:=L9.set 1 (sQ (P++ln))
    have E4:=E9.other (p:=⟨g,1,none⟩) (by simp) (sQ (P++ln))
    have N4:=N9.other (p:=⟨g,1,none⟩) (by simp; omega) (sQ (P++ln))
    have B4:=B9.setCell (p:=⟨g,1,none⟩) hgw (sQ (P++ln))
    generalize w9.setCell ⟨g,1,none⟩ (sQ (P++ln))=w4 at L4 E4 N4 B4 ⊢
    simp only [List.set_cons_zero,List.set_cons_succ] at L4
    have ff2:=L4.frozen 2
    clear c91 f91 L9 E9 N9 B9 hB hK9
    have c40:=L4.cell 0
    have c41:=L4.cell 1
    have c42:=L4.cell 2
    have e40:=E4.cell 0
    have e41:=E4.cell 1
    have n40:=N4.cell 0
    have n41:=N4.cell 1
    have n42:=N4.cell 2
    have f40:=N4.frozen 0
    have f41:=N4.frozen 1
    have f42:=N4.frozen 2
    have hl4:=L4.lt
    have he4:=E4.lt
    have hn4:=N4.lt
    simp only [List.getElem?_cons_zero,List.getElem?_cons_succ] at c40 c41 c42 e40 e41 n40 n41 n42
    have hlt4:(P++ln).size=P.size+ln.size:=dK _ _
    clear L4 E4 N4
    go_wp2_with fail
    refine bodyPost_ret (v:=.tuple #[.agg #[sQ D,sQ (P++ln),O U ((k:Int)+1)],O U 0]) (by simp [results,Tryz.results53,go_sem, *]) rfl ⟨by rw [HK2.out.1,HK2.out.2], ?_⟩
    refine B4.trans ?_
    repeat (first | exact Below.refl _ _ | refine Below.alloc ?_ (by simp; omega) _ | refine Below.setCell ?_ (by simp; omega) _)
noncomputable def cZ:List (List UInt8)→Option (List Int)
 | []=>some []
 | t :: l=>match ce t with
  | none=>none
  | some n=>(cZ l).map (n :: ·)
theorem mS:∀ {l:List (List UInt8)} {ns:List Int},cZ l=some ns→ns.length=l.length
 | [],ns,h=>by simp only [cZ,Option.some.injEq] at h; subst h; rfl
 | t :: l,ns,h=>by
  unfold cZ at h
  cases hn:ce t with
  | none=>rw [hn] at h; cases h
  | some n =>
   rw [hn] at h
   cases hl:cZ l with
   | none=>rw [hl] at h; cases h
   | some ms =>
    rw [hl] at h
    simp only [Option.map_some,Option.some.injEq] at h
    subst h
    simp [mS hl]
noncomputable def fp (acc:List Int) (l:List (List UInt8)):Option (List Int):=(cZ l).map (acc++·)
theorem l9 (acc:List Int):fp acc []=some acc:=by simp [fp,cZ]
theorem kX (l:List (List UInt8)):fp [] l=cZ l:=by
 unfold fp; cases cZ l <;> simp
theorem kY {acc:List Int} {l:List (List UInt8)} {k:Nat} (h:k < l.length) (hn:ce l[k]=none):fp acc (l.drop k)=none:=by
 rw [List.drop_eq_getElem_cons h]; unfold fp cZ; rw [hn]; rfl
theorem kZ {acc:List Int} {l:List (List UInt8)} {k:Nat} {n:Int} (h:k < l.length) (hn:ce l[k]=some n):fp acc (l.drop k)=fp (acc++[n]) (l.drop (k+1)):=by
 rw [List.drop_eq_getElem_cons h]; unfold fp; rw [cZ,hn]
 cases cZ (l.drop (k+1)) <;> simp
def eM (l:List Int):ByteArray:=if l.length=0 then ⟨#[110,111,110,101]⟩ else ⟨(Lib.join (l.map Lib.itoa) [32]).toArray⟩
def cy (x:aM) (s:ByteArray):Option ByteArray :=
 if s=⟨#[105,110]⟩ then some (bu (bW x.t))
 else if s=⟨#[111,117,116]⟩ then some (bu (aS ci x.o))
 else if s=⟨#[103,111,116]⟩ then some (bu x.got)
 else if s=⟨#[115,111,108,100]⟩ then some (bu x.sold)
 else if s=⟨#[109,105,115,115,101,100]⟩ then some (bu x.missed)
 else if s=⟨#[98,117,115,105,101,115,116]⟩ then (if ch x then some (bu (cJ x)) else none)
 else none
def kz (x:aM) (n:Int):Option ByteArray:=if am x && bI n 1 999 then some (eM (bh (am x && bI n 1 999) (aO (fun r:ae=>decide (r.p=n)) ae.k x.o))) else none
def gW (x:aM) (n:Int):Option ByteArray:=if am x && aN x.t n then some (eM (bh (am x && aN x.t n) (aO (fun r:ae=>decide (r.k=n)) ae.p x.o))) else none
def jn (x:aM) (n:Int):Option ByteArray:=if am x && aN x.t n then some (dP x n) else none
def gi (x:aM) (s:ByteArray) (n:Int):Option ByteArray :=
 if s=⟨#[97,116]⟩ then kz x n
 else if s=⟨#[119,105,116,104]⟩ then gW x n
 else if s=⟨#[116,101,120,116]⟩ then jn x n
 else none
def iv (z:aM) (s:dH):ByteArray:=if s.kind=1 then bu (bW z.t) else if s.kind=4 then bu z.sold else if s.kind=5 then bu z.missed else dP z s.stamp
def cc (s:ByteArray) (a b:Int):Option dH :=
 if s=⟨#[103,101,116]⟩ then some ⟨1,a,0,b⟩
 else if s=⟨#[109,105,115,115]⟩ then some ⟨5,a,b,0⟩
 else none
def cn (s:ByteArray) (a b c:Int):Option dH :=
 if s=⟨#[115,104,111,119]⟩ then some ⟨2,a,b,c⟩
 else if s=⟨#[98,97,99,107]⟩ then some ⟨3,a,b,c⟩
 else if s=⟨#[115,101,108,108]⟩ then some ⟨4,a,b,c⟩
 else if s=⟨#[109,111,118,101]⟩ then some ⟨6,a,b,c⟩
 else none
def Oc.off (y:Oc):aM:=y.at none 0 none 0
def bL (x:aM) (s:dH):Option (Oc × ByteArray):=(fL x.c s).map fun z=>(z,iv z.off s)
noncomputable def bp (x:aM) (w0:ByteArray):List Int→Option (Oc × ByteArray)
 | []=>(cy x w0).map (x.c,·)
 | [n]=>(gi x w0 n).map (x.c,·)
 | [a,b]=>(cc w0 a b).bind (bL x)
 | [a,b,c]=>(cn w0 a b c).bind (bL x)
 | _=>none
def wd (l:List UInt8) (j:Nat):ByteArray:=⟨((aG 32 l).getD j []).toArray⟩
noncomputable def gX (x:aM) (line:ByteArray):Option (Oc × ByteArray):=(cZ ((aG 32 (bl line)).drop 1)).bind (bp x (wd (bl line) 0))
noncomputable def kA (x:aM) (line:ByteArray):ByteArray:=match gX x line with
 | none=>⟨#[63]⟩
 | some r=>if 200 < r.2.size then ⟨#[108,111,110,103]⟩ else r.2
noncomputable def oJ (x:aM) (line:ByteArray):Oc:=match gX x line with
 | none=>x.c
 | some r=>r.1
noncomputable def gH (x:aM) (l:Lg) (line:ByteArray):ByteArray :=
 if dD x l then (if da.ok ⟨line,⟨#[]⟩⟩ then (if l.n=60 then ⟨#[102,117,108,108]⟩ else kA x line) else ⟨#[98,97,100]⟩) else ⟨#[110,111]⟩
noncomputable def fC (x:aM) (l:Lg) (line:ByteArray):Oc :=
 if dD x l then (if da.ok ⟨line,⟨#[]⟩⟩ then (if l.n=60 then x.c else oJ x line) else x.c) else x.c
noncomputable def gj (x:aM) (l:Lg) (line:ByteArray):Lg :=
 if dD x l then (if da.ok ⟨line,⟨#[]⟩⟩ then (if l.n=60 then l else fG l ⟨line,kA x line⟩) else l) else l
theorem sB {l:List UInt8} (h:(aG 32 l).length=1):wd l 0=⟨l.toArray⟩:=by
 obtain ⟨ps,h1,h2⟩:=fV 32 l
 have hp:ps = []:=by rw [h1] at h; simpa using h
 have hf:=h2.1 hp
 unfold wd
 rw [jq hf]; rfl
theorem iw (ts:List aq) (kd n:Int):aN (ah ts kd n) kd=true:=by
 unfold aN ah
 rw [List.any_eq_true]
 split
 ·rename_i hx
  obtain ⟨i,hi⟩:=fo hx
  obtain ⟨h1,h2⟩:=fQ hi
  have e:(av ts kd).toNat=i:=by omega
  rw [e]
  refine ⟨_,List.mem_of_getElem? (i:=i) (by rw [List.getElem?_set_self h1]), ?_⟩
  rw [List.getD_eq_getElem?_getD,List.getElem?_eq_getElem h1]
  exact decide_eq_true h2
 ·exact ⟨⟨kd,n⟩,by simp,decide_eq_true rfl⟩
theorem jw {r r' : Oc} (h:Oc.fin r=some r'):r'=r:=by
 unfold Oc.fin at h
 split at h
 ·injection h with h; exact h.symm
 ·cases h
theorem pI {y r:Oc} {s:dH} (h:aZ y s=some r):aN r.t s.stamp=true:=by
 have key : ¬ ¬ 0≤av y.t s.stamp→aN y.t s.stamp=true:=fun h=>by rw [← cQ]; exact decide_eq_true (by omega)
 unfold aZ at h
 split at h
 ·rw [jw h]; exact iw _ _ _
 split at h
 ·cases h
 rename_i hT
 split at h
 ·rw [jw h]; exact iw _ _ _
 split at h
 ·cases h
 split at h
 ·rw [jw h]; exact iw _ _ _
 split at h
 ·split at h
  ·rw [jw h]; exact iw _ _ _
  ·rw [jw h]; exact key hT
 split at h
 ·rw [jw h]; exact key hT
 ·rw [jw h]; exact key hT
theorem eG {y r:Oc} {s:dH} (h:fL y s=some r):r.good=true∧aN r.t s.stamp=true:=by
 unfold fL at h
 split at h
 ·exact ⟨lU h,pI h⟩
 ·cases h
theorem bn.inB {x:aM} (G:bn x):0≤bW x.t∧bW x.t≤1000000:=by
 have h1:=iV x.t 0 G.tall
 have h2:=G.tl
 change 0≤bW x.t∧bW x.t≤_ at h1
 omega
theorem bn.outB {x:aM} (G:bn x) (f:ae→Bool):0≤aS f x.o∧aS f x.o≤1000000:=by
 have h1:=eI f x.t x.o 0 G.oall
 have h2:=G.ol
 change 0≤aS f x.o∧aS f x.o≤_ at h1
 omega
theorem rS {x:aM} : 0≤cJ x∧cJ x≤1000000:=by
 by_cases h:ch x=true
 ·have:=(rL h).1
  rw [Bool.and_eq_true] at this
  have:=bH.1 this.2
  omega
 ·unfold cJ; rw [if_neg h]; omega
theorem bC {s:ByteArray} {l:List UInt8} (h : ¬ s=⟨l.toArray⟩):(s.toList == l)=false:=by
 refine beq_false_of_ne fun e=>h (dd ?_)
 rw [← e,ByteArray.toList_eq]; rfl
def cd:ByteArray:=⟨#[63]⟩
theorem fw (n:Int) (ok:Bool) (w:World) (h:ok=true→0≤n∧n≤1000000000) :
  Calls Tryz.prog 137 #[O U n,.bool ok] w fun e w'=>e=.returned (sQ (if ok then bu n else cd))∧Below w.heap.size w w':=by
 cases ok
 ·go_enter Tryz.func137,Tryz.ntmps137
  go_wp2
  go_ret
  exact ⟨rfl,Below.refl _ _⟩
 ·have HN:=fun W=>cl n W (h rfl).1 (h rfl).2
  go_enter Tryz.func137,Tryz.ntmps137
  go_wp2_with fail
  refine (HN _).mono ?_
  rintro e w1 ⟨rfl,hb⟩
  go_wp2
  go_ret
  exact ⟨rfl,hb⟩
set_option maxHeartbeats 1000000 in
theorem lc (x:aM) (kd:Int) (w:World) (h:aQ w w.heap.size x) :
  Calls Tryz.prog 143 #[x.val,O U kd] w fun e w'=>e=.returned (sQ ((jn x kd).getD cd))∧Below w.heap.size w w':=by
 have b0:=(Below.refl w.heap.size w).alloc (Nat.le_refl _) (.cells #[F x.TA x.t.length x.tc,F x.OA x.o.length x.oc,O U x.got,O U x.sold,O U x.missed] 40)
 have hc:=fun W hW=>kp x kd W hW
 have HT:Hid ((jn x kd).getD cd=if (am x && aN x.t kd)=true then dP x kd else cd):=by unfold Hid jn; split <;> rfl
 obtain ⟨ok,hok⟩ : ∃ b,(am x && aN x.t kd)=b:=⟨_,rfl⟩
 obtain ⟨tx,htx⟩ : ∃ b,dP x kd=b:=⟨_,rfl⟩
 rw [hok,htx] at hc HT
 clear hok htx
 cases ok
 all_goals
  go_enter Tryz.func143,Tryz.ntmps143
  go_wp2_with fail
  refine (hc _ (h.up b0 (Nat.le_refl _))).mono ?_
  rintro e w1 ⟨rfl,hb⟩
  go_wp2
  go_ret
  exact ⟨by rw [HT.out]; rfl,ar b0 hb⟩
def gY (l:List Int):List UInt8:=Lib.join (l.map Lib.itoa) [32]
theorem qV (n:Int):gY [n]=Lib.itoa n:=by simp [gY,Lib.join_cons,Lib.joinTail]
theorem pJ {l:List Int} {k:Nat} (h:k < l.length) (hk:0 < k):gY (l.take (k+1))=gY (l.take k)++[32]++Lib.itoa l[k]:=by
 have hne:l.take k ≠ []:=by
  intro e
  have h3:(l.take k).length=k:=by rw [List.length_take]; omega
  rw [e,List.length_nil] at h3; omega
 obtain ⟨a,t,ht⟩:=List.exists_cons_of_ne_nil hne
 rw [List.take_succ_eq_append_getElem h,ht]
 unfold gY
 simp [Lib.join_cons,Lib.joinTail]
theorem pK {l:List Int} (h:∀ n ∈ l,0≤n∧n≤1000000000):(gY l).length≤l.length * 101:=by
 have h1:∀ (m:List Int),(∀ n ∈ m,0≤n∧n≤1000000000)→(Lib.joinTail [32] (m.map Lib.itoa)).length≤m.length * 101:=by
  intro m
  induction m with
  | nil=>intro _; simp [Lib.joinTail]
  | cons a m ih =>
   intro hm
   have h2:=ih fun n hn=>hm n (List.mem_cons_of_mem _ hn)
   have h3:(⟨(Lib.itoa a).toArray⟩ : ByteArray).size≤100:=cr (hm a List.mem_cons_self).1 (hm a List.mem_cons_self).2
   have h4:(Lib.itoa a).length≤100:=by rw [← bM (Lib.itoa a),ap]; exact h3
   have e:Lib.joinTail [32] ((a :: m).map Lib.itoa) = [32]++Lib.itoa a++Lib.joinTail [32] (m.map Lib.itoa):=by simp [Lib.joinTail]
   rw [e,List.length_append,List.length_append,List.length_cons,List.length_cons,List.length_nil]; omega
 cases l with
 | nil=>simp [gY,Lib.join_nil]
 | cons a l =>
  have h2:=h1 l fun n hn=>h n (List.mem_cons_of_mem _ hn)
  have h3:(⟨(Lib.itoa a).toArray⟩ : ByteArray).size≤100:=cr (h a List.mem_cons_self).1 (h a List.mem_cons_self).2
  have h4:(Lib.itoa a).length≤100:=by rw [← bM (Lib.itoa a),ap]; exact h3
  unfold gY
  rw [List.map_cons,Lib.join_cons,List.length_append,List.length_cons]; omega
theorem pL {l:List Int} (h:0 < l.length):eM l=⟨(gY l).toArray⟩:=by unfold eM; rw [if_neg (by omega)]; rfl
set_option maxHeartbeats 2000000 in
theorem le (A:Option Addr) (c:Nat) (l:List Int) (ok:Bool) (w:World) (h:jf w w.heap.size A l) (hl8:l.length≤8) (hr:∀ n ∈ l,0≤n∧n≤1000000000) :
  Calls Tryz.prog 141 #[F A l.length c,.bool ok] w fun e w'=>e=.returned (sQ (if ok then eM l else cd))∧Below w.heap.size w w':=by
 have hrd:=jf.ints h
 cases ok
 ·go_enter Tryz.func141,Tryz.ntmps141
  go_wp2
  go_ret
  exact ⟨rfl,Below.refl _ _⟩
 ·rcases Nat.eq_zero_or_pos l.length with h0 | h0
  ·have HL:Hid (eM l=⟨#[110,111,110,101]⟩):=by unfold Hid eM; rw [if_pos h0]
   have hz:((l.length:Int) == 0)=true:=by simp [h0]
   go_enter Tryz.func141,Tryz.ntmps141
   go_wp2
   go_ret
   exact ⟨by rw [HL.out]; rfl,Below.refl _ _⟩
  ·have hz:((l.length:Int) == 0)=false:=beq_false_of_ne (by omega)
   have hz0:(0:Int) < (l.length:Int):=by omega
   have HL:=Lib.hid (pL h0)
   obtain ⟨b,off,rfl,hb,hcell⟩:=hrd h0
   have c0:∀ p:ao w.heap.size w,p.val.cell? ⟨b,off,none⟩=some (O U l[0]):=fun p=>by have:=hcell 0 h0 p; simpa using this
   have c00:w.cell? ⟨b,off,none⟩=some (O U l[0]):=c0 (ao.start _ _)
   have n0:=hr _ (List.getElem_mem h0)
   have HRG:=Lib.hid hr; clear hr
   have HN0:=Lib.hid (fun W=>cl l[0] W n0.1 n0.2)
   have H1:Hid ((⟨(gY (l.take 1)).toArray⟩ : ByteArray)=⟨(Lib.itoa l[0]).toArray⟩):=by
    rw [Hid]
    congr 2
    rw [List.take_succ_eq_append_getElem h0,List.take_zero,List.nil_append,qV]
   have HC:=Lib.hid hcell; clear hcell
   obtain ⟨z,hz9⟩ : ∃ z,l[0]=z:=⟨_,rfl⟩
   rw [hz9] at c0 c00 HN0 H1
   clear hz9 n0
   clear hrd
   go_enter Tryz.func141,Tryz.ntmps141
   go_wp2_with fail
   refine (HN0.out _).mono ?_
   rintro e w1 ⟨rfl,hb1⟩
   obtain ⟨q1,rfl⟩ : ∃ q:ao w.heap.size w,w1=q.val:=⟨⟨w1,hb1⟩,rfl⟩
   go_wp2_with fail
   go_loopw [5,6] (fun s i wr=>∃ (k:Nat),1≤k∧k≤l.length∧i=O U k∧s=sQ ⟨(gY (l.take k)).toArray⟩∧(∃ q:ao w.heap.size w,wr=q.val)) (fun _ i _=>l.length - (intOf i).toNat)
   case atStart=>exact ⟨1,Nat.le_refl _,h0,rfl,by rw [H1.out],⟨q1,rfl⟩⟩
   case round =>
    obtain ⟨k,hk1,hk,rfl,rfl,q,rfl⟩:=hrel
    by_cases hlt:k < l.length
    ·have c0:=HC.out k hlt
     have n0:=HRG.out _ (List.getElem_mem hlt)
     have HNX:=Lib.hid (pJ hlt (by omega))
     have hsz:(gY (l.take k)).length≤1000:=by
      have h1:=pK (l:=l.take k) (fun n hn=>HRG.out n (List.mem_of_mem_take hn))
      rw [List.length_take] at h1; omega
     obtain ⟨S,hS⟩ : ∃ S:ByteArray,S=⟨(gY (l.take k)).toArray⟩:=⟨_,rfl⟩
     have HS:=Lib.hid hS
     have hSz:S.size≤1000:=by rw [hS]; exact hsz
     rw [← hS]
     clear hS hsz
     obtain ⟨z,hz9⟩ : ∃ z,l[k]=z:=⟨_,rfl⟩
     rw [hz9] at c0 n0 HNX
     clear hz9
     obtain ⟨T,hT⟩ : ∃ T:ByteArray,T=⟨(Lib.itoa z).toArray⟩:=⟨_,rfl⟩
     have hTz:T.size≤100:=by rw [hT]; exact cr n0.1 n0.2
     have NUM:Hid (∀ W:World,Calls Tryz.prog 71 #[O U z] W fun e w'=>e=.returned (sQ T)∧Below W.heap.size W w'):=fun W=>by rw [hT]; exact cl z W n0.1 n0.2
     have HT:=Lib.hid hT
     clear hT n0
     have e1:(⟨#[32]⟩ : ByteArray).size=1:=rfl
     have z1:(S++⟨#[32]⟩).size≤1001:=by rw [dK]; omega
     go_wp2_with fail
     refine (NUM.out _).mono ?_
     rintro e w4 ⟨rfl,hb4⟩
     have hb5:Below w.heap.size w w4:=q.below.trans (hb4.mono q.size)
     go_wp2
     go_roundw
     case rel=>exact ⟨k+1,by omega,by omega,by go_num,by
      congr 1
      refine dd ?_
      rw [HNX.out,du,du,HS.out,HT.out,bM,bM,kr],⟨⟨w4,hb5⟩,rfl⟩⟩
     case measure=>simp [intOf]; omega
    ·have ek:k=l.length:=by omega
     subst ek
     rw [List.take_length]
     go_wp2
     go_ret
     exact ⟨by rw [HL.out]; rfl,q.below⟩
set_option maxRecDepth 100000 in
set_option maxHeartbeats 4000000 in
theorem oK (x:aM) (s:ByteArray) (w:World) (h:aQ w w.heap.size x) (G:bn x) :
  Calls Tryz.prog 86 #[x.val,sQ s] w fun e w'=>e=.returned (sQ ((cy x s).getD cd))∧Below w.heap.size w w':=by
 have b0:=(Below.refl w.heap.size w).alloc (Nat.le_refl _) (.cells #[F x.TA x.t.length x.tc,F x.OA x.o.length x.oc,O U x.got,O U x.sold,O U x.missed] 40)
 have hW:=h.up b0 (Nat.le_refl _)
 have L0:=ai.new w 40 #[F x.TA x.t.length x.tc,F x.OA x.o.length x.oc,O U x.got,O U x.sold,O U x.missed]
 have hgd:am x=true:=bm.2 G
 by_cases h0:s=⟨#[105,110]⟩
 ·subst h0
  have HV:Hid ((cy x ⟨#[105,110]⟩).getD cd=bu (bW x.t)):=by unfold Hid cy; rw [if_pos rfl]; rfl
  have hc:=fun W hW=>gM x W hW
  rw [hgd] at hc
  simp only [rD,if_true] at hc
  have hn:=fun W=>fw (bW x.t) true W (fun _=>⟨G.inB.1,by have:=G.inB.2; omega⟩)
  go_enter Tryz.func86,Tryz.ntmps86
  go_wp2_with fail
  refine (hc _ hW).mono ?_
  rintro e w1 ⟨rfl,hb1⟩
  go_wp2_with fail
  refine (hn _).mono ?_
  rintro e w2 ⟨rfl,hb2⟩
  go_wp2
  go_ret
  exact ⟨by rw [HV.out]; rfl,ar b0 (ar hb1 hb2)⟩
 have f0:(s.toList == [105,110])=false:=bC h0
 by_cases h1:s=⟨#[111,117,116]⟩
 ·subst h1
  have HV:Hid ((cy x ⟨#[111,117,116]⟩).getD cd=bu (aS ci x.o)):=by unfold Hid cy; rw [if_neg (by decide),if_pos rfl]; rfl
  have hc:=fun W hW=>jJ x W hW
  rw [hgd] at hc
  simp only [rD,if_true] at hc
  have hn:=fun W=>fw (aS ci x.o) true W (fun _=>⟨(G.outB ci).1,by have:=(G.outB ci).2; omega⟩)
  go_enter Tryz.func86,Tryz.ntmps86
  go_wp2_with fail
  refine (hc _ hW).mono ?_
  rintro e w1 ⟨rfl,hb1⟩
  go_wp2_with fail
  refine (hn _).mono ?_
  rintro e w2 ⟨rfl,hb2⟩
  go_wp2
  go_ret
  exact ⟨by rw [HV.out]; rfl,ar b0 (ar hb1 hb2)⟩
 have f1:(s.toList == [111,117,116])=false:=bC h1
 by_cases h2:s=⟨#[103,111,116]⟩
 ·subst h2
  have HV:Hid ((cy x ⟨#[103,111,116]⟩).getD cd=bu x.got):=by unfold Hid cy; rw [if_neg (by decide),if_neg (by decide),if_pos rfl]; rfl
  have hn:=fun W=>cl x.got W G.g.1 (by have:=G.g.2; omega)
  go_enter Tryz.func86,Tryz.ntmps86
  go_wp2_with fail
  refine (hn _).mono ?_
  rintro e w2 ⟨rfl,hb2⟩
  go_wp2
  go_ret
  exact ⟨by rw [HV.out]; rfl,ar b0 hb2⟩
 have f2:(s.toList == [103,111,116])=false:=bC h2
 by_cases h3:s=⟨#[115,111,108,100]⟩
 ·subst h3
  have HV:Hid ((cy x ⟨#[115,111,108,100]⟩).getD cd=bu x.sold):=by unfold Hid cy; rw [if_neg (by decide),if_neg (by decide),if_neg (by decide),if_pos rfl]; rfl
  have hn:=fun W=>cl x.sold W G.s.1 (by have:=G.s.2; omega)
  go_enter Tryz.func86,Tryz.ntmps86
  go_wp2_with fail
  refine (hn _).mono ?_
  rintro e w2 ⟨rfl,hb2⟩
  go_wp2
  go_ret
  exact ⟨by rw [HV.out]; rfl,ar b0 hb2⟩
 have f3:(s.toList == [115,111,108,100])=false:=bC h3
 by_cases h4:s=⟨#[109,105,115,115,101,100]⟩
 ·subst h4
  have HV:Hid ((cy x ⟨#[109,105,115,115,101,100]⟩).getD cd=bu x.missed):=by unfold Hid cy; rw [if_neg (by decide),if_neg (by decide),if_neg (by decide),if_neg (by decide),if_pos rfl]; rfl
  have hn:=fun W=>cl x.missed W G.m.1 (by have:=G.m.2; omega)
  go_enter Tryz.func86,Tryz.ntmps86
  go_wp2_with fail
  refine (hn _).mono ?_
  rintro e w2 ⟨rfl,hb2⟩
  go_wp2
  go_ret
  exact ⟨by rw [HV.out]; rfl,ar b0 hb2⟩
 have f4:(s.toList == [109,105,115,115,101,100])=false:=bC h4
 by_cases h5:s=⟨#[98,117,115,105,101,115,116]⟩
 ·subst h5
  have HV:Hid ((cy x ⟨#[98,117,115,105,101,115,116]⟩).getD cd=if ch x then bu (cJ x) else cd):=by unfold Hid cy; rw [if_neg (by decide),if_neg (by decide),if_neg (by decide),if_neg (by decide),if_neg (by decide),if_pos rfl]; split <;> rfl
  have hc:=fun W hW=>iB x W hW
  have hn:=fun W=>fw (cJ x) (ch x) W (fun _=>⟨rS.1,by have:=(rS (x:=x)).2; omega⟩)
  obtain ⟨T,hT⟩ : ∃ T,(if ch x=true then bu (cJ x) else cd)=T:=⟨_,rfl⟩
  rw [hT] at hn HV
  clear hT
  go_enter Tryz.func86,Tryz.ntmps86
  go_wp2_with fail
  refine (hc _ hW).mono ?_
  rintro e w1 ⟨rfl,hb1⟩
  go_wp2_with fail
  refine (hn _).mono ?_
  rintro e w2 ⟨rfl,hb2⟩
  go_wp2
  go_ret
  exact ⟨by rw [HV.out]; rfl,ar b0 (ar hb1 hb2)⟩
 have f5:(s.toList == [98,117,115,105,101,115,116])=false:=bC h5
 have HV:Hid ((cy x s).getD cd=cd):=by unfold Hid cy; rw [if_neg h0,if_neg h1,if_neg h2,if_neg h3,if_neg h4,if_neg h5]; rfl
 clear h0 h1 h2 h3 h4 h5
 go_enter Tryz.func86,Tryz.ntmps86
 go_wp2
 go_ret
 exact ⟨by rw [HV.out]; rfl,b0⟩
theorem oL {x:aM} (G:bn x) (n:Int) (b:Bool):(bh b (aO (fun r:ae=>decide (r.p=n)) ae.k x.o)).length≤8∧∀ m ∈ bh b (aO (fun r:ae=>decide (r.p=n)) ae.k x.o),0≤m∧m≤1000000000:=by
 cases b
 ·exact ⟨by simp [bh],by simp [bh]⟩
 ·refine ⟨Nat.le_trans (ko _ _ _) G.ol,fun m hm=>?_⟩
  obtain ⟨r,hr,_,rfl⟩:=eK.1 (show m ∈ aO _ _ _ from hm)
  obtain ⟨j,hj,e⟩:=List.getElem_of_mem hr
  have h1:=dW G.tall (ae.bounds (G.oall j hj)).1
  rw [e] at h1; omega
theorem ma {x:aM} (G:bn x) (n:Int) (b:Bool):(bh b (aO (fun r:ae=>decide (r.k=n)) ae.p x.o)).length≤8∧∀ m ∈ bh b (aO (fun r:ae=>decide (r.k=n)) ae.p x.o),0≤m∧m≤1000000000:=by
 cases b
 ·exact ⟨by simp [bh],by simp [bh]⟩
 ·refine ⟨Nat.le_trans (ko _ _ _) G.ol,fun m hm=>?_⟩
  obtain ⟨r,hr,_,rfl⟩:=eK.1 (show m ∈ aO _ _ _ from hm)
  obtain ⟨j,hj,e⟩:=List.getElem_of_mem hr
  have h1:=(ae.bounds (G.oall j hj)).2.1
  rw [e] at h1; omega
theorem sH {w0 w:World} {B g:Nat} (b:Below B w0 w) (hB:B≤g) (a0 a1 a2 a3:Value):Below B w0 ((((w.setCell ⟨g,0,none⟩ a0).setCell ⟨g,1,none⟩ a1).setCell ⟨g,2,none⟩ a2).setCell ⟨g,3,none⟩ a3):=((((b).setCell (p:=⟨g,0,none⟩) hB a0).setCell (p:=⟨g,1,none⟩) hB a1).setCell (p:=⟨g,2,none⟩) hB a2).setCell (p:=⟨g,3,none⟩) hB a3
theorem sP {w:World} {g:Nat} {t:TypeId} {x0 x1 x2 x3:Value} {r:List Value} (hL:ai w g t (x0 :: x1 :: x2 :: x3 :: r)) (a0 a1 a2 a3:Value):ai ((((w.setCell ⟨g,0,none⟩ a0).setCell ⟨g,1,none⟩ a1).setCell ⟨g,2,none⟩ a2).setCell ⟨g,3,none⟩ a3) g t (a0 :: a1 :: a2 :: a3 :: r):=((((hL).set 0 a0).set 1 a1).set 2 a2).set 3 a3
theorem qW {w:World} {g:Nat} {t:TypeId} {x0 x1 x2 x3 x4:Value} {r:List Value} (hL:ai w g t (x0 :: x1 :: x2 :: x3 :: x4 :: r)) (a0 a1 a2 a3 a4:Value):ai (((((w.setCell ⟨g,0,none⟩ a0).setCell ⟨g,1,none⟩ a1).setCell ⟨g,2,none⟩ a2).setCell ⟨g,3,none⟩ a3).setCell ⟨g,4,none⟩ a4) g t (a0 :: a1 :: a2 :: a3 :: a4 :: r):=(((((hL).set 0 a0).set 1 a1).set 2 a2).set 3 a3).set 4 a4
theorem dN {w0 w:World} {B g:Nat} (b:Below B w0 w) (hB:B≤g) (a0 a1 a2 a3 a4 a5 a6 a7:Value):Below B w0 ((((((((w.setCell ⟨g,0,none⟩ a0).setCell ⟨g,1,none⟩ a1).setCell ⟨g,2,none⟩ a2).setCell ⟨g,3,none⟩ a3).setCell ⟨g,4,none⟩ a4).setCell ⟨g,5,none⟩ a5).setCell ⟨g,6,none⟩ a6).setCell ⟨g,7,none⟩ a7):=((((((((b).setCell (p:=⟨g,0,none⟩) hB a0).setCell (p:=⟨g,1,none⟩) hB a1).setCell (p:=⟨g,2,none⟩) hB a2).setCell (p:=⟨g,3,none⟩) hB a3).setCell (p:=⟨g,4,none⟩) hB a4).setCell (p:=⟨g,5,none⟩) hB a5).setCell (p:=⟨g,6,none⟩) hB a6).setCell (p:=⟨g,7,none⟩) hB a7
theorem nz {w:World} {g:Nat} {t:TypeId} {x0 x1 x2 x3 x4 x5 x6 x7:Value} {r:List Value} (hL:ai w g t (x0 :: x1 :: x2 :: x3 :: x4 :: x5 :: x6 :: x7 :: r)) (a0 a1 a2 a3 a4 a5 a6 a7:Value):ai ((((((((w.setCell ⟨g,0,none⟩ a0).setCell ⟨g,1,none⟩ a1).setCell ⟨g,2,none⟩ a2).setCell ⟨g,3,none⟩ a3).setCell ⟨g,4,none⟩ a4).setCell ⟨g,5,none⟩ a5).setCell ⟨g,6,none⟩ a6).setCell ⟨g,7,none⟩ a7) g t (a0 :: a1 :: a2 :: a3 :: a4 :: a5 :: a6 :: a7 :: r):=((((((((hL).set 0 a0).set 1 a1).set 2 a2).set 3 a3).set 4 a4).set 5 a5).set 6 a6).set 7 a7
set_option maxRecDepth 100000 in
set_option maxHeartbeats 4000000 in
theorem pM (x:aM) (l:Lg) (s:ByteArray) (n:Int) (w:World) (h:aQ w w.heap.size x) (G:bn x) :
  Calls Tryz.prog 87 #[aL x l,sQ s,O U n] w fun e w'=>e=.returned (.tuple #[aL x l,sQ ((gi x s n).getD cd)])∧Below w.heap.size w w':=by
 have L1:=(ai.new w 42 #[F x.TA x.t.length x.tc,F x.OA x.o.length x.oc,O U x.got,O U x.sold,O U x.missed,sQ l.D,sQ l.P,O U l.n]).alloc (.cells #[F none 0 0,F none 0 0,O U 0,O U 0,O U 0,sQ ⟨#[]⟩,sQ ⟨#[]⟩,O U 0] 42)
 have L2:=ai.new1 w (.cells #[F x.TA x.t.length x.tc,F x.OA x.o.length x.oc,O U x.got,O U x.sold,O U x.missed,sQ l.D,sQ l.P,O U l.n] 42) 42 #[F none 0 0,F none 0 0,O U 0,O U 0,O U 0,sQ ⟨#[]⟩,sQ ⟨#[]⟩,O U 0]
 have b1:=(Below.refl w.heap.size w).alloc (Nat.le_refl _) (.cells #[F x.TA x.t.length x.tc,F x.OA x.o.length x.oc,O U x.got,O U x.sold,O U x.missed,sQ l.D,sQ l.P,O U l.n] 42)
 have b2:=b1.alloc b1.size (.cells #[F none 0 0,F none 0 0,O U 0,O U 0,O U 0,sQ ⟨#[]⟩,sQ ⟨#[]⟩,O U 0] 42)
 have hW:=h.up b2 (Nat.le_refl _)
 have hge:w.heap.size≤w.heap.size+1:=by omega
 clear b1 h
 by_cases h0:s=⟨#[97,116]⟩
 ·subst h0
  have HV:Hid ((gi x ⟨#[97,116]⟩ n).getD cd=(kz x n).getD cd):=by unfold Hid gi; rw [if_pos rfl]
  have BD:=oL G n (am x && bI n 1 999)
  have hc:=fun W hW=>lm x n W hW
  have HT:Hid ((kz x n).getD cd=if (am x && bI n 1 999)=true then eM (bh (am x && bI n 1 999) (aO (fun r:ae=>decide (r.p=n)) ae.k x.o)) else cd):=by unfold Hid kz; split <;> rfl
  obtain ⟨ok,hok⟩ : ∃ b,(am x && bI n 1 999)=b:=⟨_,rfl⟩
  obtain ⟨ns,hns⟩ : ∃ b,bh (am x && bI n 1 999) (aO (fun r:ae=>decide (r.p=n)) ae.k x.o)=b:=⟨_,rfl⟩
  rw [hns] at BD hc HT
  rw [hok] at hc HT
  have hl:=fun W A c hR=>le A c ns ok W hR BD.1 BD.2
  obtain ⟨T,hT⟩ : ∃ T,(if ok=true then eM ns else cd)=T:=⟨_,rfl⟩
  rw [hT] at hl HT
  rw [HT.out] at HV
  clear hok hns hT HT BD
  go_enter Tryz.func87,Tryz.ntmps87
  go_wp2_with fail
  generalize ((w.alloc (.cells #[F x.TA x.t.length x.tc,F x.OA x.o.length x.oc,O U x.got,O U x.sold,O U x.missed,sQ l.D,sQ l.P,O U l.n] 42)).alloc (.cells #[F none 0 0,F none 0 0,O U 0,O U 0,O U 0,sQ ⟨#[]⟩,sQ ⟨#[]⟩,O U 0] 42))=W at L1 L2 b2 hW ⊢
  refine (hc _ hW).mono ?_
  rintro e W1 ⟨A',c',rfl,hO,hb⟩
  have hR1:=hO.reads
  have K1:=L1.below hb L1.lt
  have K2:=L2.below hb L2.lt
  have b3:=ar b2 hb
  clear hO L1 L2
  go_wp2_with fail
  refine an (Sw 4 (fun W9=>Below W1.heap.size W1 W9) (fun W9=>Below w.heap.size w W9∧ai W9 (w.heap.size+1) 42 [F x.TA x.t.length x.tc,F x.OA x.o.length x.oc,O U x.got,O U x.sold,O U x.missed,sQ l.D,sQ l.P,O U l.n])) (fun i w1 w2=>i ∉ [4]→Below w1.heap.size w1 w2) (by kernel_rfl) (by kernel_rfl) (by kernel_rfl) (Sw.start (Below.refl _ _).drew) ?_
  simp only [ax,Act.put,List.setIfInBounds_toArray,List.set_cons_zero,List.set_cons_succ,Nat.zero_add,Nat.reduceAdd]
  apply aa
  case h1 =>
   intro vs L9 w9 hG9 hC9 hB K9 hK9
   replace hC9:=sb hC9 hG9
   have q0:w9.cell? ⟨w.heap.size,0,none⟩=some (F x.TA x.t.length x.tc):=(K1.below hC9 K1.lt).cell 0
   have q1:w9.cell? ⟨w.heap.size,1,none⟩=some (F x.OA x.o.length x.oc):=(K1.below hC9 K1.lt).cell 1
   have q2:w9.cell? ⟨w.heap.size,2,none⟩=some (O U x.got):=(K1.below hC9 K1.lt).cell 2
   have q3:w9.cell? ⟨w.heap.size,3,none⟩=some (O U x.sold):=(K1.below hC9 K1.lt).cell 3
   have q4:w9.cell? ⟨w.heap.size,4,none⟩=some (O U x.missed):=(K1.below hC9 K1.lt).cell 4
   have q5:w9.cell? ⟨w.heap.size,5,none⟩=some (sQ l.D):=(K1.below hC9 K1.lt).cell 5
   have q6:w9.cell? ⟨w.heap.size,6,none⟩=some (sQ l.P):=(K1.below hC9 K1.lt).cell 6
   have q7:w9.cell? ⟨w.heap.size,7,none⟩=some (O U l.n):=(K1.below hC9 K1.lt).cell 7
   simp only [Act.put,sA,s0,s1] at hK9
   go_simp
   exact hK9 _ _ rfl (sy hG9 hC9) bR
  apply aa
  case h1 =>
   intro vs L9 w9 hG9 hC9 hB K9 hK9
   replace hC9:=sb hC9 hG9
   simp only [Act.put,sA,s0,s1] at hK9
   go_simp
   exact hK9 _ _ rfl (sy hG9 hC9) bR
  apply aa
  case h1 =>
   intro vs L9 w9 hG9 hC9 hB K9 hK9
   replace hC9:=sb hC9 hG9
   simp only [Act.put,sA,s0,s1] at hK9
   go_simp
   exact hK9 _ _ rfl (sy hG9 hC9) bR
  refine aa (sQ T) (fun vs L9 w9 hG9 hC9 hB K9 hK9=>?_) ?_
  next =>
   replace hC9:=sb hC9 hG9
   have d1:=fe hB 1
   have d2:=fe hB 2
   simp only [d1,d2] at hK9 ⊢
   go_simp
   refine (hl w9 A' c' (hR1.then hC9)).mono ?_
   rintro en w8 ⟨rfl,hb8⟩
   exact hK9 _ _ rfl (Sw.stay hG9 (by kernel_rfl) (by decide) (hC9.trans (hb8.mono hC9.size))) (fun _=>hb8)
  refine aa (undef) (fun vs L9 w9 hG9 hC9 hB K9 hK9=>?_) ?_
  next =>
   replace hC9:=hC9.here hG9
   have d0:=fe hB 0
   simp only [d0] at hK9 ⊢
   have Lr:=K2.below hC9 K2.lt
   obtain ⟨z0,z1,z2,z3,z4,z5,z6,z7⟩:=cells8 Lr
   obtain ⟨f0,f1,f2,f3,f4,f5,f6,f7⟩:=frz8 Lr
   have hN8:=Lib.hid (show ai _ (w.heap.size+1) 42 [F x.TA x.t.length x.tc,F x.OA x.o.length x.oc,O U x.got,O U x.sold,O U x.missed,sQ l.D,sQ l.P,O U l.n] from nz (Lr) (F x.TA x.t.length x.tc) (F x.OA x.o.length x.oc) (O U x.got) (O U x.sold) (O U x.missed) (sQ l.D) (sQ l.P) (O U l.n))
   have hD8:=Lib.hid (dN (g:=(w.heap.size+1)) ((b3).trans (hC9.mono (b3).size)) hge (F x.TA x.t.length x.tc) (F x.OA x.o.length x.oc) (O U x.got) (O U x.sold) (O U x.missed) (sQ l.D) (sQ l.P) (O U l.n))
   clear Lr
   go_simp
   exact hK9 _ _ rfl (Sw.turn ⟨hD8.out,hN8.out⟩) (fun hq=>(hq (by decide)).elim)
  apply aa
  case h1 =>
   intro vs L9 w9 hG9 hC9 hB K9 hK9
   replace hC9:=hC9.after hG9 (by kernel_rfl)
   have d3:=fe hB 3
   simp only [d3] at hK9 ⊢
   simp only [Act.put,sA,s0,s1] at hK9
   go_simp
   exact hK9 _ _ rfl (Sw.on hG9 (by kernel_rfl) hC9) bR
  refine az fun vs L9 w9 hL9 hC9 hB=>?_
  replace hC9:=hC9.done hL9 (by decide)
  have dl:=ag.eq (hB 5 _ rfl rfl (by decide))
  simp only [dl]
  clear hB dl
  obtain ⟨hD,hN⟩:=hC9
  obtain ⟨k0,k1,k2,k3,k4,k5,k6,k7⟩:=cells8 hN
  clear hN
  go_wp2
  refine bodyPost_ret (v:=.tuple #[aL x l,sQ T]) (by simp [results,Tryz.results87,go_sem, *]) rfl ⟨by rw [HV.out],hD⟩
 have f0:(s.toList == [97,116])=false:=bC h0
 by_cases h1:s=⟨#[119,105,116,104]⟩
 ·subst h1
  have HV:Hid ((gi x ⟨#[119,105,116,104]⟩ n).getD cd=(gW x n).getD cd):=by unfold Hid gi; rw [if_neg (by decide),if_pos rfl]
  have BD:=ma G n (am x && aN x.t n)
  have hc:=fun W hW=>jc x n W hW
  have HT:Hid ((gW x n).getD cd=if (am x && aN x.t n)=true then eM (bh (am x && aN x.t n) (aO (fun r:ae=>decide (r.k=n)) ae.p x.o)) else cd):=by unfold Hid gW; split <;> rfl
  obtain ⟨ok,hok⟩ : ∃ b,(am x && aN x.t n)=b:=⟨_,rfl⟩
  obtain ⟨ns,hns⟩ : ∃ b,bh (am x && aN x.t n) (aO (fun r:ae=>decide (r.k=n)) ae.p x.o)=b:=⟨_,rfl⟩
  rw [hns] at BD hc HT
  rw [hok] at hc HT
  have hl:=fun W A c hR=>le A c ns ok W hR BD.1 BD.2
  obtain ⟨T,hT⟩ : ∃ T,(if ok=true then eM ns else cd)=T:=⟨_,rfl⟩
  rw [hT] at hl HT
  rw [HT.out] at HV
  clear hok hns hT HT BD
  go_enter Tryz.func87,Tryz.ntmps87
  go_wp2_with fail
  generalize ((w.alloc (.cells #[F x.TA x.t.length x.tc,F x.OA x.o.length x.oc,O U x.got,O U x.sold,O U x.missed,sQ l.D,sQ l.P,O U l.n] 42)).alloc (.cells #[F none 0 0,F none 0 0,O U 0,O U 0,O U 0,sQ ⟨#[]⟩,sQ ⟨#[]⟩,O U 0] 42))=W at L1 L2 b2 hW ⊢
  refine (hc _ hW).mono ?_
  rintro e W1 ⟨A',c',rfl,hO,hb⟩
  have hR1:=hO.reads
  have K1:=L1.below hb L1.lt
  have K2:=L2.below hb L2.lt
  have b3:=ar b2 hb
  clear hO L1 L2
  go_wp2_with fail
  refine an (Sw 4 (fun W9=>Below W1.heap.size W1 W9) (fun W9=>Below w.heap.size w W9∧ai W9 (w.heap.size+1) 42 [F x.TA x.t.length x.tc,F x.OA x.o.length x.oc,O U x.got,O U x.sold,O U x.missed,sQ l.D,sQ l.P,O U l.n])) (fun i w1 w2=>i ∉ [4]→Below w1.heap.size w1 w2) (by kernel_rfl) (by kernel_rfl) (by kernel_rfl) (Sw.start (Below.refl _ _).drew) ?_
  simp only [ax,Act.put,List.setIfInBounds_toArray,List.set_cons_zero,List.set_cons_succ,Nat.zero_add,Nat.reduceAdd]
  apply aa
  case h1 =>
   intro vs L9 w9 hG9 hC9 hB K9 hK9
   replace hC9:=sb hC9 hG9
   have q0:w9.cell? ⟨w.heap.size,0,none⟩=some (F x.TA x.t.length x.tc):=(K1.below hC9 K1.lt).cell 0
   have q1:w9.cell? ⟨w.heap.size,1,none⟩=some (F x.OA x.o.length x.oc):=(K1.below hC9 K1.lt).cell 1
   have q2:w9.cell? ⟨w.heap.size,2,none⟩=some (O U x.got):=(K1.below hC9 K1.lt).cell 2
   have q3:w9.cell? ⟨w.heap.size,3,none⟩=some (O U x.sold):=(K1.below hC9 K1.lt).cell 3
   have q4:w9.cell? ⟨w.heap.size,4,none⟩=some (O U x.missed):=(K1.below hC9 K1.lt).cell 4
   have q5:w9.cell? ⟨w.heap.size,5,none⟩=some (sQ l.D):=(K1.below hC9 K1.lt).cell 5
   have q6:w9.cell? ⟨w.heap.size,6,none⟩=some (sQ l.P):=(K1.below hC9 K1.lt).cell 6
   have q7:w9.cell? ⟨w.heap.size,7,none⟩=some (O U l.n):=(K1.below hC9 K1.lt).cell 7
   simp only [Act.put,sA,s0,s1] at hK9
   go_simp
   exact hK9 _ _ rfl (sy hG9 hC9) bR
  apply aa
  case h1 =>
   intro vs L9 w9 hG9 hC9 hB K9 hK9
   replace hC9:=sb hC9 hG9
   simp only [Act.put,sA,s0,s1] at hK9
   go_simp
   exact hK9 _ _ rfl (sy hG9 hC9) bR
  apply aa
  case h1 =>
   intro vs L9 w9 hG9 hC9 hB K9 hK9
   replace hC9:=sb hC9 hG9
   simp only [Act.put,sA,s0,s1] at hK9
   go_simp
   exact hK9 _ _ rfl (sy hG9 hC9) bR
  refine aa (sQ T) (fun vs L9 w9 hG9 hC9 hB K9 hK9=>?_) ?_
  next =>
   replace hC9:=sb hC9 hG9
   have d1:=fe hB 1
   have d2:=fe hB 2
   simp only [d1,d2] at hK9 ⊢
   go_simp
   refine (hl w9 A' c' (hR1.then hC9)).mono ?_
   rintro en w8 ⟨rfl,hb8⟩
   exact hK9 _ _ rfl (Sw.stay hG9 (by kernel_rfl) (by decide) (hC9.trans (hb8.mono hC9.size))) (fun _=>hb8)
  refine aa (undef) (fun vs L9 w9 hG9 hC9 hB K9 hK9=>?_) ?_
  next =>
   replace hC9:=hC9.here hG9
   have d0:=fe hB 0
   simp only [d0] at hK9 ⊢
   have Lr:=K2.below hC9 K2.lt
   obtain ⟨z0,z1,z2,z3,z4,z5,z6,z7⟩:=cells8 Lr
   obtain ⟨f0,f1,f2,f3,f4,f5,f6,f7⟩:=frz8 Lr
   have hN8:=Lib.hid (show ai _ (w.heap.size+1) 42 [F x.TA x.t.length x.tc,F x.OA x.o.length x.oc,O U x.got,O U x.sold,O U x.missed,sQ l.D,sQ l.P,O U l.n] from nz (Lr) (F x.TA x.t.length x.tc) (F x.OA x.o.length x.oc) (O U x.got) (O U x.sold) (O U x.missed) (sQ l.D) (sQ l.P) (O U l.n))
   have hD8:=Lib.hid (dN (g:=(w.heap.size+1)) ((b3).trans (hC9.mono (b3).size)) hge (F x.TA x.t.length x.tc) (F x.OA x.o.length x.oc) (O U x.got) (O U x.sold) (O U x.missed) (sQ l.D) (sQ l.P) (O U l.n))
   clear Lr
   go_simp
   exact hK9 _ _ rfl (Sw.turn ⟨hD8.out,hN8.out⟩) (fun hq=>(hq (by decide)).elim)
  apply aa
  case h1 =>
   intro vs L9 w9 hG9 hC9 hB K9 hK9
   replace hC9:=hC9.after hG9 (by kernel_rfl)
   have d3:=fe hB 3
   simp only [d3] at hK9 ⊢
   simp only [Act.put,sA,s0,s1] at hK9
   go_simp
   exact hK9 _ _ rfl (Sw.on hG9 (by kernel_rfl) hC9) bR
  refine az fun vs L9 w9 hL9 hC9 hB=>?_
  replace hC9:=hC9.done hL9 (by decide)
  have dl:=ag.eq (hB 5 _ rfl rfl (by decide))
  simp only [dl]
  clear hB dl
  obtain ⟨hD,hN⟩:=hC9
  obtain ⟨k0,k1,k2,k3,k4,k5,k6,k7⟩:=cells8 hN
  clear hN
  go_wp2
  refine bodyPost_ret (v:=.tuple #[aL x l,sQ T]) (by simp [results,Tryz.results87,go_sem, *]) rfl ⟨by rw [HV.out],hD⟩
 have f1:(s.toList == [119,105,116,104])=false:=bC h1
 by_cases h2:s=⟨#[116,101,120,116]⟩
 ·subst h2
  have HV:Hid ((gi x ⟨#[116,101,120,116]⟩ n).getD cd=(jn x n).getD cd):=by unfold Hid gi; rw [if_neg (by decide),if_neg (by decide),if_pos rfl]
  have hc:=fun W hW=>lc x n W hW
  obtain ⟨T,hT⟩ : ∃ T,(jn x n).getD cd=T:=⟨_,rfl⟩
  rw [hT] at hc HV
  clear hT
  go_enter Tryz.func87,Tryz.ntmps87
  go_wp2_with fail
  generalize ((w.alloc (.cells #[F x.TA x.t.length x.tc,F x.OA x.o.length x.oc,O U x.got,O U x.sold,O U x.missed,sQ l.D,sQ l.P,O U l.n] 42)).alloc (.cells #[F none 0 0,F none 0 0,O U 0,O U 0,O U 0,sQ ⟨#[]⟩,sQ ⟨#[]⟩,O U 0] 42))=W at L1 L2 b2 hW ⊢
  refine an (Sw 5 (fun W9=>Below W.heap.size W W9) (fun W9=>Below w.heap.size w W9∧ai W9 (w.heap.size+1) 42 [F x.TA x.t.length x.tc,F x.OA x.o.length x.oc,O U x.got,O U x.sold,O U x.missed,sQ l.D,sQ l.P,O U l.n])) (fun i w1 w2=>i ∉ [5]→Below w1.heap.size w1 w2) (by kernel_rfl) (by kernel_rfl) (by kernel_rfl) (Sw.start (Below.refl _ _).drew) ?_
  simp only [ax,Act.put,List.setIfInBounds_toArray,List.set_cons_zero,List.set_cons_succ,Nat.zero_add,Nat.reduceAdd]
  apply aa
  case h1 =>
   intro vs L9 w9 hG9 hC9 hB K9 hK9
   replace hC9:=sb hC9 hG9
   have q0:w9.cell? ⟨w.heap.size,0,none⟩=some (F x.TA x.t.length x.tc):=(L1.below hC9 L1.lt).cell 0
   have q1:w9.cell? ⟨w.heap.size,1,none⟩=some (F x.OA x.o.length x.oc):=(L1.below hC9 L1.lt).cell 1
   have q2:w9.cell? ⟨w.heap.size,2,none⟩=some (O U x.got):=(L1.below hC9 L1.lt).cell 2
   have q3:w9.cell? ⟨w.heap.size,3,none⟩=some (O U x.sold):=(L1.below hC9 L1.lt).cell 3
   have q4:w9.cell? ⟨w.heap.size,4,none⟩=some (O U x.missed):=(L1.below hC9 L1.lt).cell 4
   have q5:w9.cell? ⟨w.heap.size,5,none⟩=some (sQ l.D):=(L1.below hC9 L1.lt).cell 5
   have q6:w9.cell? ⟨w.heap.size,6,none⟩=some (sQ l.P):=(L1.below hC9 L1.lt).cell 6
   have q7:w9.cell? ⟨w.heap.size,7,none⟩=some (O U l.n):=(L1.below hC9 L1.lt).cell 7
   simp only [Act.put,sA,s0,s1] at hK9
   go_simp
   exact hK9 _ _ rfl (sy hG9 hC9) bR
  apply aa
  case h1 =>
   intro vs L9 w9 hG9 hC9 hB K9 hK9
   replace hC9:=sb hC9 hG9
   simp only [Act.put,sA,s0,s1] at hK9
   go_simp
   exact hK9 _ _ rfl (sy hG9 hC9) bR
  apply aa
  case h1 =>
   intro vs L9 w9 hG9 hC9 hB K9 hK9
   replace hC9:=sb hC9 hG9
   have d1:=fe hB 1
   simp only [d1] at hK9 ⊢
   have q0:w9.cell? ⟨w.heap.size,0,none⟩=some (F x.TA x.t.length x.tc):=(L1.below hC9 L1.lt).cell 0
   have q1:w9.cell? ⟨w.heap.size,1,none⟩=some (F x.OA x.o.length x.oc):=(L1.below hC9 L1.lt).cell 1
   have q2:w9.cell? ⟨w.heap.size,2,none⟩=some (O U x.got):=(L1.below hC9 L1.lt).cell 2
   have q3:w9.cell? ⟨w.heap.size,3,none⟩=some (O U x.sold):=(L1.below hC9 L1.lt).cell 3
   have q4:w9.cell? ⟨w.heap.size,4,none⟩=some (O U x.missed):=(L1.below hC9 L1.lt).cell 4
   simp only [Act.put,sA,s0,s1] at hK9
   go_simp
   exact hK9 _ _ rfl (sy hG9 hC9) bR
  apply aa
  case h1 =>
   intro vs L9 w9 hG9 hC9 hB K9 hK9
   replace hC9:=sb hC9 hG9
   simp only [Act.put,sA,s0,s1] at hK9
   go_simp
   exact hK9 _ _ rfl (sy hG9 hC9) bR
  refine aa (sQ T) (fun vs L9 w9 hG9 hC9 hB K9 hK9=>?_) ?_
  next =>
   replace hC9:=sb hC9 hG9
   have d2:=fe hB 2
   have d3:=fe hB 3
   simp only [d2,d3] at hK9 ⊢
   go_simp
   refine (hc w9 (hW.then hC9)).mono ?_
   rintro en w8 ⟨rfl,hb8⟩
   exact hK9 _ _ rfl (Sw.stay hG9 (by kernel_rfl) (by decide) (hC9.trans (hb8.mono hC9.size))) (fun _=>hb8)
  refine aa (undef) (fun vs L9 w9 hG9 hC9 hB K9 hK9=>?_) ?_
  next =>
   replace hC9:=hC9.here hG9
   have d0:=fe hB 0
   simp only [d0] at hK9 ⊢
   have Lr:=L2.below hC9 L2.lt
   obtain ⟨z0,z1,z2,z3,z4,z5,z6,z7⟩:=cells8 Lr
   obtain ⟨f0,f1,f2,f3,f4,f5,f6,f7⟩:=frz8 Lr
   have hN8:=Lib.hid (show ai _ (w.heap.size+1) 42 [F x.TA x.t.length x.tc,F x.OA x.o.length x.oc,O U x.got,O U x.sold,O U x.missed,sQ l.D,sQ l.P,O U l.n] from nz (Lr) (F x.TA x.t.length x.tc) (F x.OA x.o.length x.oc) (O U x.got) (O U x.sold) (O U x.missed) (sQ l.D) (sQ l.P) (O U l.n))
   have hD8:=Lib.hid (dN (g:=(w.heap.size+1)) ((b2).trans (hC9.mono (b2).size)) hge (F x.TA x.t.length x.tc) (F x.OA x.o.length x.oc) (O U x.got) (O U x.sold) (O U x.missed) (sQ l.D) (sQ l.P) (O U l.n))
   clear Lr
   go_simp
   exact hK9 _ _ rfl (Sw.turn ⟨hD8.out,hN8.out⟩) (fun hq=>(hq (by decide)).elim)
  apply aa
  case h1 =>
   intro vs L9 w9 hG9 hC9 hB K9 hK9
   replace hC9:=hC9.after hG9 (by kernel_rfl)
   have d4:=fe hB 4
   simp only [d4] at hK9 ⊢
   simp only [Act.put,sA,s0,s1] at hK9
   go_simp
   exact hK9 _ _ rfl (Sw.on hG9 (by kernel_rfl) hC9) bR
  refine az fun vs L9 w9 hL9 hC9 hB=>?_
  replace hC9:=hC9.done hL9 (by decide)
  have dl:=ag.eq (hB 6 _ rfl rfl (by decide))
  simp only [dl]
  clear hB dl
  obtain ⟨hD,hN⟩:=hC9
  obtain ⟨k0,k1,k2,k3,k4,k5,k6,k7⟩:=cells8 hN
  clear hN
  go_wp2
  refine bodyPost_ret (v:=.tuple #[aL x l,sQ T]) (by simp [results,Tryz.results87,go_sem, *]) rfl ⟨by rw [HV.out],hD⟩
 have f2:(s.toList == [116,101,120,116])=false:=bC h2
 have HV:Hid ((gi x s n).getD cd=cd):=by unfold Hid gi; rw [if_neg h0,if_neg h1,if_neg h2]; rfl
 clear h0 h1 h2
 go_enter Tryz.func87,Tryz.ntmps87
 go_upto_region 10 with fail
 generalize ((w.alloc (.cells #[F x.TA x.t.length x.tc,F x.OA x.o.length x.oc,O U x.got,O U x.sold,O U x.missed,sQ l.D,sQ l.P,O U l.n] 42)).alloc (.cells #[F none 0 0,F none 0 0,O U 0,O U 0,O U 0,sQ ⟨#[]⟩,sQ ⟨#[]⟩,O U 0] 42))=W at L1 L2 b2 hW ⊢
 obtain ⟨c0,c1,c2,c3,c4,c5,c6,c7⟩:=cells8 L1
 obtain ⟨z0,z1,z2,z3,z4,z5,z6,z7⟩:=cells8 L2
 obtain ⟨f0,f1,f2,f3,f4,f5,f6,f7⟩:=frz8 L2
 have bz:=Lib.hid (dN (g:=w.heap.size+1) (b2) hge (F x.TA x.t.length x.tc) (F x.OA x.o.length x.oc) (O U x.got) (O U x.sold) (O U x.missed) (sQ l.D) (sQ l.P) (O U l.n))
 clear L1 L2 b2 hW
 go_wp2
 refine bodyPost_ret (v:=.tuple #[aL x l,sQ ⟨#[63]⟩]) (by simp [results,Tryz.results87,go_sem, *]) rfl ⟨by rw [HV.out]; rfl,bz.out⟩
end Go.Proofs.YtoeoimhemojdeaaGreatDoor
