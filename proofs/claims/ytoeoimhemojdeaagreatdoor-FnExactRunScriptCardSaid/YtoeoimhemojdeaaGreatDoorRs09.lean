/- Rs09: the texts LogI Split DecS OpenS LogS Open RecTo LgTo ConTo FmtP Enc, joined into one file. -/
import Derived.Test.YtoeoimhemojdeaaGreatDoorProg
import Derived.ProofKit
import Derived.ChangeOld
import Derived.ShutString
import Derived.OpenShut
import Derived.Deep.Slices
import Derived.Deep.Fields
import Derived.Test.YtoeoimhemojdeaaGreatDoorRs01
import Derived.Test.YtoeoimhemojdeaaGreatDoorRs03
import Derived.Test.YtoeoimhemojdeaaGreatDoorRs04
import Derived.Test.YtoeoimhemojdeaaGreatDoorRs07
import Derived.Test.YtoeoimhemojdeaaGreatDoorRs08

set_option linter.unusedVariables false
open Go.Value renaming int → O, slice → F, string → uk
open Go.IntKind renaming i64 → U

namespace Go.Proofs.YtoeoimhemojdeaaGreatDoor
open Go.RowKit
structure Lg where
 D:ByteArray
 P:ByteArray
 n:Int
abbrev Lg.val (l:Lg):Value:=.agg #[uk l.D,uk l.P,O U l.n]
noncomputable def Lg.ok (l:Lg):Bool:=qM (bl l.D) (bl l.P) l.n
def Lg.all (l:Lg):List UInt8:=bl l.D++bl l.P
theorem ee {α:Type} {l:List α} {j:Nat} (h:j < l.length) (d:α):l.getD j d=l[j]:=by rw [List.getD_eq_getElem?_getD,List.getElem?_eq_getElem h]; rfl
theorem qq {W:World} {B n:Nat} {A:Option Addr} {c:Nat} {l:List Nat} (h:W.ownsRow B 3 1 (F A n c) n (rP l)) (hn:n=l.length) (h0:0 < n) :
  ∃ g,A=some ⟨g,0,none⟩∧B≤g∧g < W.heap.size∧∀ j,j < n→W.cell? ⟨g,j,none⟩=some (O U ((l.getD j 0:Nat):Int)):=by
 obtain ⟨g,hA⟩ : ∃ g,A=some ⟨g,0,none⟩:=by
  obtain ⟨_,h0' | ⟨g,cap,cur,hv,_⟩⟩:=h
  ·have:=h0'.2; omega
  ·injection hv with e1 e2 e3; exact ⟨g,e1⟩
 subst hA
 refine ⟨g,rfl,(h.lt g rfl).1,(h.lt g rfl).2,fun j hj=>?_⟩
 rw [h.cellAt j (by omega)]
 unfold rP
 rw [List.getElem?_map,List.getElem?_eq_getElem (by omega),ee (by omega)]
 rfl
theorem nc {W:World} {g c:Nat} {l:List Nat} {x:Nat} {n:Nat} (hn:n=l.length) (hb:n≤9223372036854775807) (h:∀ j,j < n→W.cell? ⟨g,j,none⟩=some (O U ((l.getD j 0:Nat):Int))) :
  Calls Tryz.prog 78 #[F (some ⟨g,0,none⟩) n c,O U (x:Int)] W fun e w'=>e=.returned (.bool (decide (x ∈ l)))∧w'=W:=by
 have h1:=Tryz.slices_Contains_int g 0 n c (l.map fun (y:Nat)=>(y:Int)) x W (by simp; omega) hb (fun j hj=>by
  simp only [List.length_map] at hj
  rw [Nat.zero_add,h j (by omega),ee hj,ee (by simpa using hj)]
  simp)
 have h2:((l.map fun (y:Nat)=>(y:Int)).take n).contains (x:Int)=decide (x ∈ l):=by
  rw [List.take_of_length_le (by simp; omega),Bool.eq_iff_iff]
  simp only [List.contains_eq_mem,decide_eq_true_eq,List.mem_map]
  exact ⟨fun ⟨a,ha,e⟩=>by rw [← Int.ofNat.inj e]; exact ha,fun h=>⟨x,h,rfl⟩⟩
 rw [h2] at h1
 exact h1
set_option maxRecDepth 100000 in
set_option maxHeartbeats 4000000 in
theorem kX (l:Lg) (w:World) (hs:l.D.size+l.P.size≤2000000) (ht:iR w) :
  Calls Tryz.prog 42 #[l.val] w fun e w'=>e=.returned (.bool l.ok)∧Below w.heap.size w w':=by
 have b1:=(Below.refl w.heap.size w).alloc (Nat.le_refl _) (.cells #[uk l.D,uk l.P,O U l.n] 27)
 have L1:=ah.new w 27 #[uk l.D,uk l.P,O U l.n]
 have ht1:=ht.then b1
 have hbl:bl (l.D++l.P)=bl l.D++bl l.P:=dP _ _
 have hz:(l.D++l.P).size=l.D.size+l.P.size:=eI _ _
 have HRd:=Lib.hid (fun W hW=>lX (l.D++l.P) W (by omega) hW)
 have hok:=@pR (bl l.D) (bl l.P) l.n
 have hlen:=dL 60 0 (bl (l.D++l.P))
 have hroom:=iy 60 0 (bl (l.D++l.P))
 have hlast:=mf 0 (aW 60 0 (bl (l.D++l.P)))
 have hel:=iz 0 (aW 60 0 (bl (l.D++l.P)))
 rw [← hbl] at hok
 rw [ao] at hroom
 rw [ao,ao] at hok
 rw [Nat.zero_add] at hlast
 obtain ⟨rs,hrs⟩ : ∃ rs,rs=aW 60 0 (bl (l.D++l.P)):=⟨_,rfl⟩
 obtain ⟨en,hen⟩ : ∃ en,en=du 0 (aW 60 0 (bl (l.D++l.P))):=⟨_,rfl⟩
 have HRd2:Hid (∀ W,iR W→Calls Tryz.prog 68 #[uk (l.D++l.P)] W fun e w'=>∃ A c A' c' k g,k=rs.length∧A'=some ⟨g,0,none⟩∧e=.returned (.tuple #[F A k c,F A' (k+1) c'])∧(∀ j,j < k+1→w'.cell? ⟨g,j,none⟩=some (O U ((en.getD j 0:Nat):Int)))∧Below W.heap.size W w'):=fun W hW=>by
  refine (HRd.out W hW).mono ?_
  rintro e w' ⟨A,c,A',c',m,rfl,hm,_,hO,hb⟩
  have hml:=mG hm
  obtain ⟨g,hA,_,_,hc⟩:=qq hO (by rw [iz,hml]) (by omega)
  exact ⟨A,c,A',c',m.length,g,by rw [hml,hrs],hA,rfl,by rw [hen]; exact hc,hb⟩
 clear HRd
 rw [← hen] at hlast hel hok
 rw [← hrs] at hlen hroom hlast hel hok
 obtain ⟨k0,hk0⟩ : ∃ k0,k0=rs.length:=⟨_,rfl⟩
 rw [← hk0] at hlen hlast hel hok HRd2
 obtain ⟨z,hzz⟩ : ∃ z,z=dJ rs:=⟨_,rfl⟩
 rw [← hzz] at hroom hlast hok
 have hlast' : en.getD k0 0=z:=by rw [List.getD_eq_getElem?_getD,hlast]; rfl
 have HCt:Hid (∀ (W:World) (g c:Nat),(∀ j,j < k0+1→W.cell? ⟨g,j,none⟩=some (O U ((en.getD j 0:Nat):Int)))→Calls Tryz.prog 78 #[F (some ⟨g,0,none⟩) (k0+1) c,O U (l.D.size:Int)] W fun e w'=>e=.returned (.bool (decide (l.D.size ∈ en)))∧w'=W):=fun W g c h=>nc (by omega) (by omega) h
 have HOK:Hid (l.ok=(decide (z=l.D.size+l.P.size) && decide (l.D.size ∈ en) && decide (l.n=(k0:Int)))):=by
  unfold Hid Lg.ok
  rw [Bool.eq_iff_iff,hok]
  simp [and_assoc]
 clear hok hlast hbl hrs hen hk0 hzz
 generalize decide (l.D.size ∈ en)=dc at HCt HOK
 go_enter Tryz.func42,Tryz.ntmps42
 go_wp2_with fail
 generalize w.alloc (.cells #[uk l.D,uk l.P,O U l.n] 27)=W at b1 L1 ht1 ⊢
 generalize hg:w.heap.size=g at L1 ⊢
 refine (HRd2.out _ ht1).mono ?_
 rintro e w2 ⟨A,c,A',c',k,g',rfl,rfl,rfl,hc',hb2⟩
 have L2:=L1.below hb2 L1.lt
 have c0:=L2.cell 0
 have c1:=L2.cell 1
 have c2:=L2.cell 2
 simp only [List.getElem?_cons_zero,List.getElem?_cons_succ] at c0 c1 c2
 have HC2:=Lib.hid (HCt.out w2 g' c' hc')
 have hl:=hc' k (by omega)
 rw [hlast'] at hl
 have hbb:Below w.heap.size w w2:=by rw [← hg] at *; exact aq b1 hb2
 clear L1 L2 hc' HCt HRd2
 by_cases e1:z=l.D.size+l.P.size
 ·rw [decide_eq_true e1] at HOK
  have d1:((z:Int) == (l.D.size:Int)+(l.P.size:Int))=true:=by rw [e1]; simp
  cases dc
  ·clear e1
   go_wp2_with (go_at_call 78; refine (HC2.out).mono ?_; rintro e w' ⟨rfl,rfl⟩)
   go_ret
   exact ⟨by rw [HOK.out]; rfl,hbb⟩
  ·by_cases e3:l.n=(k:Int)
   ·rw [decide_eq_true e3] at HOK
    have d3:(l.n == (k:Int))=true:=by rw [e3]; simp
    clear e1 e3
    go_wp2_with (go_at_call 78; refine (HC2.out).mono ?_; rintro e w' ⟨rfl,rfl⟩)
    go_ret
    exact ⟨by rw [HOK.out]; rfl,hbb⟩
   ·rw [decide_eq_false e3] at HOK
    have d3:(l.n == (k:Int))=false:=by simp [e3]
    clear e1 e3
    go_wp2_with (go_at_call 78; refine (HC2.out).mono ?_; rintro e w' ⟨rfl,rfl⟩)
    go_ret
    exact ⟨by rw [HOK.out]; rfl,hbb⟩
 ·rw [decide_eq_false e1] at HOK
  have d1:((z:Int) == (l.D.size:Int)+(l.P.size:Int))=false:=by simp; omega
  clear e1
  go_wp2_with fail
  go_ret
  exact ⟨by rw [HOK.out]; rfl,hbb⟩
def dn (ps:List (List UInt8)):List Value:=ps.map fun p=>Value.string ⟨p.toArray⟩
theorem rQ (ps:List (List UInt8)):(dn ps).length=ps.length * 1:=by simp [dn]
theorem pt:(Tryz.prog.info? 9).map (fun i=>(i.zero,i.size,i.bytes))=some (some (uk ⟨#[]⟩),1,16):=by kernel_rfl
theorem qr {s:ByteArray} {f i:Nat} {b:UInt8} (hfi:f≤i) (hi:i < s.size) :
  cw b (((bl s).take i).drop f) ((bl s).drop i)=if s[i]=b then ((bl s).take i).drop f :: cw b (((bl s).take (i+1)).drop (i+1)) ((bl s).drop (i+1)) else cw b (((bl s).take (i+1)).drop f) ((bl s).drop (i+1)):=by
 rw [jq hi,cw]
 have e1:((bl s).take (i+1)).drop (i+1) = []:=List.drop_eq_nil_of_le (by rw [List.length_take]; omega)
 have e2:((bl s).take (i+1)).drop f=((bl s).take i).drop f++[s[i]]:=by
  rw [tJ hi,List.drop_append_of_le_length (by rw [List.length_take,ao]; omega)]
 rw [e1,e2]
set_option maxRecDepth 100000 in
set_option maxHeartbeats 4000000 in
theorem gW (s:ByteArray) (b:UInt8) (w:World) (hs:s.size≤100000000) :
  Calls Tryz.prog 58 #[uk s,.int .u8 b.toNat] w fun e w'=>∃ A c,e=.returned (F A (aH b (bl s)).length c)∧w'.ownsRow w.heap.size 9 1 (F A (aH b (bl s)).length c) (aH b (bl s)).length (dn (aH b (bl s)))∧Below w.heap.size w w':=by
 have b0:=(Below.refl w.heap.size w).alloc (Nat.le_refl _) (.cells #[] 9)
 have O0:Hid ((w.alloc (.cells #[] 9)).ownsRow w.heap.size 9 1 (F (some ⟨w.heap.size,0,none⟩) 0 0) 0 (dn [])):=cP (ah.new w 9 #[]) (Nat.le_refl _)
 have HPL:Hid (∀ l cur:List UInt8,(cw b cur l).length≤l.length+1):=fz b
 go_enter Tryz.func58,Tryz.ntmps58
 go_wp2
 go_loopw [5,6,7] (fun o fr i wr=>∃ (f k:Nat) (A:Option Addr) (c:Nat) (ps:List (List UInt8)),f≤k∧k≤s.size∧ps.length≤k∧o=F A ps.length c∧fr=O U f∧i=O U k∧(∃ q:an w.heap.size w,wr=q.val) ∧
  Hid (aH b (bl s)=ps++cw b (((bl s).take k).drop f) ((bl s).drop k))∧Hid (wr.ownsRow w.heap.size 9 1 (F A ps.length c) ps.length (dn ps))) (fun _ _ i _=>s.size - (intOf i).toNat)
 case atStart=>exact ⟨0,0,some ⟨w.heap.size,0,none⟩,0,[],Nat.le_refl _,Nat.zero_le _,by simp,rfl,rfl,rfl,⟨⟨_,b0⟩,rfl⟩,rfl,O0⟩
 case round =>
  obtain ⟨f,k,A,c,ps,hfk,hk,hps,rfl,rfl,rfl,⟨q,rfl⟩,HF,HR⟩:=hrel
  have hqs:=q.size
  by_cases hlt:k < s.size
  ·have HST:=Lib.hid (qr (b:=b) hfk hlt)
   have hq:=@tQ s[k] b
   have i1:(f:Int)≤(k:Int):=by omega
   have i2:(k:Int)≤(s.size:Int):=by omega
   by_cases heq:s[k]=b
   ·rw [if_pos heq] at HST
    rw [decide_eq_true heq] at hq
    have HB:Hid (bl (s.extract f k)=((bl s).take k).drop f):=bE _ _ _
    clear heq
    go_wp2_with (at_builtin; refine bY (w0:=q.val) rfl (.tmp 20) (.tmp 25) 49 rfl 9 (uk ⟨#[]⟩) 1 16 Tryz.underlying49 pt rfl (by omega) (by omega) w.heap.size _ _ _ rfl HR #[uk (s.extract f k)] 1 _ rfl (by first | rfl | simp | exact Array.size_push _) rfl (by simp [Value.oneCell']) (by omega) hqs rfl rfl rfl rfl ?_; intro v5 w5 HO5 hg5 hb5)
    obtain ⟨A5,c5,hv5⟩:=av HO5.out
    subst hv5
    go_roundw
    case rel =>
     refine ⟨k+1,k+1,A5,c5,ps++[((bl s).take k).drop f],Nat.le_refl _,by omega,by simp; omega,by simp,by go_num,by go_num,⟨q.go' hb5,rfl⟩, ?_, ?_⟩
     ·have h1:=HF.out; rw [HST.out] at h1; rw [Hid,h1]; simp
     ·have h1:=HO5.out; rw [Hid]
      have h2:dn (ps++[((bl s).take k).drop f])=dn ps++[Value.string (s.extract f k)]:=by unfold dn; rw [List.map_append,← HB.out]; simp [← dQ rfl]
      rw [h2]; simpa using h1
    case measure=>simp [intOf]; omega
   ·rw [if_neg heq] at HST
    rw [decide_eq_false heq] at hq
    clear heq
    go_wp2
    go_roundw
    case rel=>exact ⟨f,k+1,A,c,ps,by omega,by omega,by omega,rfl,rfl,by go_num,⟨q,rfl⟩,by have h1:=HF.out; rw [HST.out] at h1; exact h1,HR⟩
    case measure=>simp [intOf]; omega
  ·obtain rfl:k=s.size:=by omega
   have i1:(f:Int)≤(s.size:Int):=by omega
   have HB:Hid (bl (s.extract f s.size)=((bl s).take s.size).drop f):=bE _ _ _
   have HF2:Hid (aH b (bl s)=ps++[((bl s).take s.size).drop f]):=by
    have h1:=HF.out
    have e0:(bl s).drop s.size = []:=List.drop_eq_nil_of_le (by rw [ao]; exact Nat.le_refl _)
    rw [e0] at h1; exact h1
   go_wp2_with (at_builtin; refine bY (w0:=q.val) rfl (.tmp 29) (.tmp 33) 49 rfl 9 (uk ⟨#[]⟩) 1 16 Tryz.underlying49 pt rfl (by omega) (by omega) w.heap.size _ _ _ rfl HR #[uk (s.extract f s.size)] 1 _ rfl (by first | rfl | simp | exact Array.size_push _) rfl (by simp [Value.oneCell']) (by omega) hqs rfl rfl rfl rfl ?_; intro v5 w5 HO5 hg5 hb5)
   obtain ⟨A5,c5,hv5⟩:=av HO5.out
   subst hv5
   go_ret
   have h2:dn (ps++[((bl s).take s.size).drop f])=dn ps++[Value.string (s.extract f s.size)]:=by unfold dn; rw [List.map_append,← HB.out]; simp [← dQ rfl]
   rw [HF2.out,h2]
   refine ⟨A5,c5,by simp, ?_,(q.go' hb5).below⟩
   have h1:=HO5.out
   simpa using h1
theorem jg {w:World} {B:Nat} {A:Option Addr} {c:Nat} {s:ByteArray} {b:UInt8} (h:w.ownsRow B 9 1 (F A (aH b (bl s)).length c) (aH b (bl s)).length (dn (aH b (bl s)))) :
  ∃ g,A=some ⟨g,0,none⟩∧w.cell? ⟨g,0,none⟩=some (uk (aR s b))∧B≤g∧g < w.heap.size:=by
 obtain ⟨ps,hps,_⟩:=gj b (bl s)
 have hlen:0 < (aH b (bl s)).length:=by rw [hps]; simp
 obtain ⟨g,hA⟩ : ∃ g,A=some ⟨g,0,none⟩:=by
  obtain ⟨_,h0 | ⟨g,cap,cur,hv,_⟩⟩:=h
  ·have:=h0.2; omega
  ·injection hv with e1 e2 e3; exact ⟨g,e1⟩
 subst hA
 refine ⟨g,rfl, ?_,(h.lt g rfl).1,(h.lt g rfl).2⟩
 rw [h.cellAt 0 (by omega),hps]
 rfl
set_option maxRecDepth 100000 in
set_option maxHeartbeats 8000000 in
theorem pu (k:Nat) (s:ByteArray) (w:World) (hk:k≤1000) (hs:s.size≤1000000) :
  Calls Tryz.prog 128 #[uk s,O U k] w (mF k s w):=by
 have b1:=(Below.refl w.heap.size w).alloc (Nat.le_refl _) (.cells #[uk ⟨#[]⟩,uk ⟨#[]⟩] 62)
 have L1:=ah.new w 62 #[uk ⟨#[]⟩,uk ⟨#[]⟩]
 obtain ⟨t,htt⟩ : ∃ t:ByteArray,t=⟨(Lib.itoa (k:Int)).toArray⟩:=⟨_,rfl⟩
 have hts:t.size≤100:=by rw [htt]; exact cz (by omega) (by omega)
 have HN:Hid (∀ W,Calls Tryz.prog 71 #[O U k] W fun e w'=>e=.returned (uk t)∧Below W.heap.size W w'):=fun W=>by rw [htt]; exact cn (k:Int) W (by omega) (by omega)
 have HT:Hid (bl t=Lib.itoa (k:Int)):=by rw [htt,Hid,bK]
 have HPre:Hid (bl (t++⟨#[32]⟩)=Lib.itoa (k:Int)++[32]):=by rw [Hid,dP,HT.out]; rfl
 clear htt
 have z1:(⟨#[32]⟩ : ByteArray).size=1:=rfl
 have z2:(⟨#[10]⟩ : ByteArray).size=1:=rfl
 have HSp:=Lib.hid (fun W=>gW s 35 W (by omega))
 obtain ⟨x,hx⟩ : ∃ x:ByteArray,x=aR s 35:=⟨_,rfl⟩
 have hbx:bl x=dF 35 (bl s):=by rw [hx]; unfold aR; rw [bK]
 have hxs:x.size≤1000000:=by rw [← ao,hbx]; have:=jV 35 (bl s); rw [ao] at this; omega
 have HFirst:Hid (∀ (W:World) (B:Nat) (A:Option Addr) (c:Nat),W.ownsRow B 9 1 (F A (aH 35 (bl s)).length c) (aH 35 (bl s)).length (dn (aH 35 (bl s)))→∃ g,A=some ⟨g,0,none⟩∧W.cell? ⟨g,0,none⟩=some (uk x)∧B≤g∧g < W.heap.size):=fun W B A c h=>by
  rw [hx]; exact jg h
 have hps1:1≤(aH 35 (bl s)).length:=by obtain ⟨ps,e,_⟩:=gj 35 (bl s); rw [e]; simp
 have hps2:(aH 35 (bl s)).length≤1000001:=by have:=fz 35 (bl s) []; rw [ao] at this; unfold aH; omega
 obtain ⟨n0,hn0⟩ : ∃ n,n=(aH 35 (bl s)).length:=⟨_,rfl⟩
 rw [← hn0] at HSp HFirst hps1 hps2
 clear hx hn0
 obtain ⟨p,hp⟩ : ∃ p:ByteArray,p=t++⟨#[32]⟩:=⟨_,rfl⟩
 have hpz:p.size=t.size+1:=by rw [hp,eI]; rfl
 by_cases hpre:(Lib.itoa (k:Int)++[32]) <+: bl x
 ·have hsplit:=pr hpre
  have hpx:p.size≤x.size:=by have:=hpre.length_le; rw [← HPre.out,← hp,ao,ao] at this; exact this
  obtain ⟨u,hu⟩ : ∃ u:ByteArray,u=x.extract p.size x.size:=⟨_,rfl⟩
  have hbu:bl u=(bl x).drop (Lib.itoa (k:Int)++[32]).length:=by
   rw [hu,bE,List.take_of_length_le (by rw [ao]; exact Nat.le_refl _),← HPre.out,← hp,ao]
  rw [← hbu] at hsplit
  have hus:u.size≤1000000:=by rw [← ao,hbu,List.length_drop,ao]; omega
  have d1:decide ((x.size:Int) < (p.size:Int))=false:=decide_eq_false (by omega)
  have d2:((x.extract 0 p.size).toList == p.toList)=true:=by
   rw [kv]; refine decide_eq_true ?_
   have e1:bl p=Lib.itoa (k:Int)++[32]:=by rw [hp]; exact HPre.out
   rw [bE,List.drop_zero,e1,hsplit,show p.size=(Lib.itoa (k:Int)++[32]).length by rw [← e1]; rfl]
   exact List.take_left' rfl
  have HSu:Hid (∀ W,Calls Tryz.prog 58 #[uk u,.int .u8 64] W fun e w'=>∃ A c,e=.returned (F A (aH 64 (bl u)).length c)∧w'.ownsRow W.heap.size 9 1 (F A (aH 64 (bl u)).length c) (aH 64 (bl u)).length (dn (aH 64 (bl u)))∧Below W.heap.size W w'):=fun W=>by
   exact gW u 64 W (by omega)
  have HFirstU:Hid (∀ (W:World) (B:Nat) (A:Option Addr) (c:Nat),W.ownsRow B 9 1 (F A (aH 64 (bl u)).length c) (aH 64 (bl u)).length (dn (aH 64 (bl u)))→∃ g,A=some ⟨g,0,none⟩∧W.cell? ⟨g,0,none⟩=some (uk (aR u 64))∧B≤g∧g < W.heap.size):=fun W B A c h=>jg h
  have hqs1:1≤(aH 64 (bl u)).length:=by obtain ⟨ps,e,_⟩:=gj 64 (bl u); rw [e]; simp
  have hqs2:(aH 64 (bl u)).length≤1000001:=by have:=fz 64 (bl u) []; rw [ao] at this; unfold aH; omega
  obtain ⟨n1,hn1⟩ : ∃ n,n=(aH 64 (bl u)).length:=⟨_,rfl⟩
  rw [← hn1] at HSu HFirstU hqs1 hqs2
  clear hn1
  have hcl:(aR u 64).size≤u.size:=by unfold aR; rw [← ao,bK]; have:=jV 64 (bl u); rw [ao] at this; omega
  have hur:u.size=x.size - p.size:=by rw [hu,← ao,bE,List.length_drop,List.length_take,ao]; omega
  have HPx:Hid (p=t++⟨#[32]⟩):=hp
  subst hp
  rw [hpz] at hpx d1 d2 hur hu
  have HU:=Lib.hid hu; clear hu
  have HUr:=Lib.hid hur; clear hur
  have i1:(t.size:Int)+1≤(x.size:Int):=by omega
  by_cases hat:(64:UInt8) ∈ bl u
  ·have hparts:=dr hat
   have hdec:=nK (c:=bl (aR u 64)) (r:=bl (aZ u 64)) (s:=bl s) (k:=k) (by rw [← hbx,hsplit]; rw [show bl (aR u 64)++64 :: bl (aZ u 64)=bl u by unfold aR aZ; rw [bK,bK]; exact hparts.symm]) (by unfold aR; rw [bK]; exact fT 64 _)
   have hlen:=congrArg List.length hparts
   have hcz:(aR u 64).size=(dF 64 (bl u)).length:=by unfold aR; rw [← ao,bK]
   simp only [List.length_append,List.length_cons,List.length_drop,ao] at hlen
   have hEz:(aR u 64).size+1≤u.size:=by omega
   have d3:(((aR u 64).size:Int) == (u.size:Int))=false:=by simp; omega
   have HR:Hid (u.extract ((aR u 64).size+1) u.size=aZ u 64):=by
    unfold aZ Hid; refine dQ ?_
    rw [bE,List.take_of_length_le (by rw [ao]; exact Nat.le_refl _),hcz]
   have hcr:(aZ u 64).size≤1000000:=by unfold aZ; rw [← ao,bK,List.length_drop,ao]; omega
   have HG:=Lib.hid (fun W=>fO ⟨aR u 64,aZ u 64⟩ W (by simp only; omega) (by simp only; omega))
   have HLn:=Lib.hid (fun W=>lH k ⟨aR u 64,aZ u 64⟩ W hk (by simp only; omega) hcr)
   obtain ⟨ln,hln⟩ : ∃ ln:ByteArray,ln=⟨(cu k (bl (aR u 64)) (bl (aZ u 64))).toArray⟩:=⟨_,rfl⟩
   simp only [← hln] at HLn
   have hbln:bl ln=cu k (bl (aR u 64)) (bl (aZ u 64)):=by rw [hln,bK]
   clear hlen hcz hparts hat
   cases hok:fu.ok ⟨aR u 64,aZ u 64⟩
   ·rw [hok] at HG
    have HD:Hid (dG k (bl s)=none):=by
     rw [Hid,hdec,if_neg (fun h=>by rw [show fu.ok ⟨aR u 64,aZ u 64⟩=gf (bl (aR u 64)) (bl (aZ u 64)) from rfl,h.1] at hok; cases hok)]
    clear hpre hsplit hbu hbx hdec hok hln hbln
    go_enter Tryz.func128,Tryz.ntmps128
    go_wp2_with fail
    generalize w.alloc (.cells #[uk ⟨#[]⟩,uk ⟨#[]⟩] 62)=W at b1 L1 ⊢
    generalize hg:w.heap.size=g at L1 ⊢
    refine (HN.out _).mono ?_
    rintro e w2 ⟨rfl,hb2⟩
    go_wp2_with fail
    refine (HSp.out _).mono ?_
    rintro e w3 ⟨A3,c3,rfl,hO3,hb3⟩
    obtain ⟨g3,rfl,x0,hg3,hg3'⟩:=HFirst.out _ _ _ _ hO3
    have hb13:=aq hb2 hb3
    have L3:=L1.below hb13 L1.lt
    clear hO3
    go_wp2_with fail
    rw [← HU.out]
    refine (HSu.out _).mono ?_
    rintro e w4 ⟨A4,c4,rfl,hO4,hb4⟩
    obtain ⟨g4,rfl,x1,hg4,hg4'⟩:=HFirstU.out _ _ _ _ hO4
    have hb14:=aq hb13 hb4
    have L4:=L3.below hb4 L3.lt
    clear hO4
    have hEs:((aR u 64).size:Int)+1≤(u.size:Int):=by omega
    go_wp2_with fail
    rw [HR.out]
    have N5:=ah.new w4 62 #[uk (aR u 64),uk (aZ u 64)]
    have L5:=L4.alloc (.cells #[uk (aR u 64),uk (aZ u 64)] 62)
    have hb5:=(aq b1 hb14).trans ((Below.refl w.heap.size w4).alloc (by have:=(aq b1 hb14).size; omega) (.cells #[uk (aR u 64),uk (aZ u 64)] 62))
    generalize w4.alloc (.cells #[uk (aR u 64),uk (aZ u 64)] 62)=W5 at N5 L5 hb5 ⊢
    have hne:g ≠ w4.heap.size:=by have:=L4.lt; omega
    generalize w4.heap.size=ge at N5 hne ⊢
    have hgw:w.heap.size≤g:=by omega
    clear L1 L3 L4 x0 x1
    refine fQ (fun W9=>(∃ a b,ah W9 g 62 [uk a,uk b])∧ah W9 ge 62 [uk (aR u 64),uk (aZ u 64)]∧Below w.heap.size w W9) (fun W8 W9=>ah W8 g 62 [uk (aR u 64),uk (aZ u 64)]→ah W9 g 62 [uk (aR u 64),uk (aZ u 64)]) (by kernel_rfl) (by kernel_rfl) (by kernel_rfl) ⟨⟨_,_,L5.below (Below.refl _ _).drew L5.lt⟩,N5.below (Below.refl _ _).drew N5.lt,hb5.drew⟩ ?_
    simp only [aw,Act.put,List.setIfInBounds_toArray,List.set_cons_zero,List.set_cons_succ,Nat.zero_add,Nat.reduceAdd]
    refine aG (.agg #[uk (aR u 64),uk (aZ u 64)]) (fun vs w9 hC9 hB K9 hK9=>?_) ?_
    ·obtain ⟨⟨a9,b9,hG9⟩,hN9,hW9⟩:=hC9
     have q0:w9.cell? ⟨ge,0,none⟩=some (uk (aR u 64)):=hN9.cell 0
     have q1:w9.cell? ⟨ge,1,none⟩=some (uk (aZ u 64)):=hN9.cell 1
     go_simp
     exact hK9 _ _ rfl ⟨⟨a9,b9,hG9⟩,hN9,hW9⟩ id
    refine aG (.agg #[uk (aR u 64),uk (aZ u 64)]) (fun vs w9 hC9 hB K9 hK9=>?_) ?_
    ·obtain ⟨⟨a9,b9,hG9⟩,hN9,hW9⟩:=hC9
     have q0:w9.cell? ⟨ge,0,none⟩=some (uk (aR u 64)):=hN9.cell 0
     have q1:w9.cell? ⟨ge,1,none⟩=some (uk (aZ u 64)):=hN9.cell 1
     go_simp
     exact hK9 _ _ rfl ⟨⟨a9,b9,hG9⟩,hN9,hW9⟩ id
    refine aG (.bool false) (fun vs w9 hC9 hB K9 hK9=>?_) ?_
    ·have hd1:=hB 1 _ (by kernel_rfl) rfl
     simp only [hd1] at hK9 ⊢
     obtain ⟨⟨a9,b9,hG9⟩,hN9,hW9⟩:=hC9
     go_simp
     refine (HG.out _).mono ?_
     rintro e8 w8 ⟨rfl,hb8⟩
     exact hK9 _ _ rfl ⟨⟨a9,b9,hG9.below hb8 hG9.lt⟩,hN9.below hb8 hN9.lt,hW9.trans (hb8.mono hW9.size)⟩ (fun h=>h.below hb8 h.lt)
    refine aG (.bool false) (fun vs w9 hC9 hB K9 hK9=>?_) ?_
    ·have hd2:=hB 2 _ (by kernel_rfl) rfl
     simp only [hd2] at hK9 ⊢
     obtain ⟨⟨a9,b9,hG9⟩,hN9,hW9⟩:=hC9
     go_simp
     exact hK9 _ _ rfl ⟨⟨a9,b9,hG9⟩,hN9,hW9⟩ id
    refine aG (undef) (fun vs w9 hC9 hB K9 hK9=>?_) ?_
    ·have hd3:=hB 3 _ (by kernel_rfl) rfl
     simp only [hd3] at hK9 ⊢
     obtain ⟨⟨a9,b9,hG9⟩,hN9,hW9⟩:=hC9
     go_simp
     exact hK9 _ _ rfl ⟨⟨a9,b9,hG9⟩,hN9,hW9⟩ id
    refine aG (undef) (fun vs w9 hC9 hB K9 hK9=>?_) ?_
    ·have hd3:=hB 3 _ (by kernel_rfl) rfl
     simp only [hd3] at hK9 ⊢
     obtain ⟨⟨a9,b9,hG9⟩,hN9,hW9⟩:=hC9
     go_simp
     exact hK9 _ _ rfl ⟨⟨a9,b9,hG9⟩,hN9,hW9⟩ id
    refine aG (undef) (fun vs w9 hC9 hB K9 hK9=>?_) ?_
    ·have hd3:=hB 3 _ (by kernel_rfl) rfl
     simp only [hd3] at hK9 ⊢
     obtain ⟨⟨a9,b9,hG9⟩,hN9,hW9⟩:=hC9
     go_simp
     exact hK9 _ _ rfl ⟨⟨a9,b9,hG9⟩,hN9,hW9⟩ id
    refine aG (undef) (fun vs w9 hC9 hB K9 hK9=>?_) ?_
    ·have hd3:=hB 3 _ (by kernel_rfl) rfl
     simp only [hd3] at hK9 ⊢
     obtain ⟨⟨a9,b9,hG9⟩,hN9,hW9⟩:=hC9
     go_simp
     exact hK9 _ _ rfl ⟨⟨a9,b9,hG9⟩,hN9,hW9⟩ id
    refine aG (undef) (fun vs w9 hC9 hB K9 hK9=>?_) ?_
    ·have hd3:=hB 3 _ (by kernel_rfl) rfl
     simp only [hd3] at hK9 ⊢
     obtain ⟨⟨a9,b9,hG9⟩,hN9,hW9⟩:=hC9
     go_simp
     exact hK9 _ _ rfl ⟨⟨a9,b9,hG9⟩,hN9,hW9⟩ id
    refine aG (undef) (fun vs w9 hC9 hB K9 hK9=>?_) ?_
    ·have hd3:=hB 3 _ (by kernel_rfl) rfl
     simp only [hd3] at hK9 ⊢
     obtain ⟨⟨a9,b9,hG9⟩,hN9,hW9⟩:=hC9
     go_simp
     exact hK9 _ _ rfl ⟨⟨a9,b9,hG9⟩,hN9,hW9⟩ id
    refine aG (.bool false) (fun vs w9 hC9 hB K9 hK9=>?_) ?_
    ·have hd3:=hB 3 _ (by kernel_rfl) rfl
     simp only [hd3] at hK9 ⊢
     obtain ⟨⟨a9,b9,hG9⟩,hN9,hW9⟩:=hC9
     go_simp
     exact hK9 _ _ rfl ⟨⟨a9,b9,hG9⟩,hN9,hW9⟩ id
    refine iF (fun _ W9=>ah W9 g 62 [uk (aR u 64),uk (aZ u 64)]) (fun _ _ _ h hT=>hT h) (fun vs w9 hC9 hB K9 hK9=>?_) ?_
    ·have hd0:=hB 0 _ (by kernel_rfl) rfl
     simp only [hd0] at hK9 ⊢
     obtain ⟨⟨a9,b9,hG9⟩,hN9,hW9⟩:=hC9
     have q0:w9.cell? ⟨g,0,none⟩=some (uk a9):=hG9.cell 0
     have q1:w9.cell? ⟨g,1,none⟩=some (uk b9):=hG9.cell 1
     have f0:=hG9.frozen 0
     have f1:=hG9.frozen 1
     have hS:ah ((w9.setCell ⟨g,0,none⟩ (uk (aR u 64))).setCell ⟨g,1,none⟩ (uk (aZ u 64))) g 62 [uk (aR u 64),uk (aZ u 64)]:=(hG9.set 0 (uk (aR u 64))).set 1 (uk (aZ u 64))
     have hN:ah ((w9.setCell ⟨g,0,none⟩ (uk (aR u 64))).setCell ⟨g,1,none⟩ (uk (aZ u 64))) ge 62 [uk (aR u 64),uk (aZ u 64)]:=(hN9.other (p:=⟨g,0,none⟩) (Ne.symm hne) _).other (p:=⟨g,1,none⟩) (Ne.symm hne) _
     have hW:=(hW9.setCell (p:=⟨g,0,none⟩) hgw (uk (aR u 64))).setCell (p:=⟨g,1,none⟩) hgw (uk (aZ u 64))
     go_simp
     exact hK9 _ undef _ rfl hS ⟨⟨_,_,hS⟩,hN,hW⟩ (fun _=>hS)
    refine aG (.bool false) (fun vs w9 hC9 hB K9 hK9=>?_) ?_
    ·have hd10:=hB 10 _ (by kernel_rfl) rfl
     simp only [hd10] at hK9 ⊢
     obtain ⟨⟨a9,b9,hG9⟩,hN9,hW9⟩:=hC9
     go_simp
     exact hK9 _ _ rfl ⟨⟨a9,b9,hG9⟩,hN9,hW9⟩ id
    refine i8 fun vs W9 hC9 hB=>?_
    have hv12:=hB 12 _ rfl
    have hS:=hB 11 _ rfl
    obtain ⟨_,_,hW9⟩:=hC9
    simp only [hv12]
    have c0:=hS.cell 0
    have c1:=hS.cell 1
    simp only [List.getElem?_cons_zero,List.getElem?_cons_succ] at c0 c1
    clear hS hB hv12
    go_wp2_with fail
    refine bodyPost_ret (v:=.tuple #[.agg #[uk (aR u 64),uk (aZ u 64)],.bool false]) (by simp [results,Tryz.results128,go_sem, *]) rfl ⟨aR u 64,aZ u 64,false,rfl,.inr ⟨rfl,HD.out⟩,hW9⟩
   ·rw [hok] at HG
    by_cases heq:cu k (bl (aR u 64)) (bl (aZ u 64))=bl s++[10]
    ·have HD:Hid (dG k (bl s)=some (bl (aR u 64),bl (aZ u 64))):=by rw [Hid,hdec,if_pos ⟨hok,heq⟩]
     have HEq:Hid ((ln.toList == (s++⟨#[10]⟩ : ByteArray).toList)=true):=by rw [Hid,kv]; exact decide_eq_true (by rw [hbln,heq,dP]; rfl)
     clear hpre hsplit hbu hbx hdec hok heq hln hbln
     go_enter Tryz.func128,Tryz.ntmps128
     go_wp2_with fail
     generalize w.alloc (.cells #[uk ⟨#[]⟩,uk ⟨#[]⟩] 62)=W at b1 L1 ⊢
     generalize hg:w.heap.size=g at L1 ⊢
     refine (HN.out _).mono ?_
     rintro e w2 ⟨rfl,hb2⟩
     go_wp2_with fail
     refine (HSp.out _).mono ?_
     rintro e w3 ⟨A3,c3,rfl,hO3,hb3⟩
     obtain ⟨g3,rfl,x0,hg3,hg3'⟩:=HFirst.out _ _ _ _ hO3
     have hb13:=aq hb2 hb3
     have L3:=L1.below hb13 L1.lt
     clear hO3
     go_wp2_with fail
     rw [← HU.out]
     refine (HSu.out _).mono ?_
     rintro e w4 ⟨A4,c4,rfl,hO4,hb4⟩
     obtain ⟨g4,rfl,x1,hg4,hg4'⟩:=HFirstU.out _ _ _ _ hO4
     have hb14:=aq hb13 hb4
     have L4:=L3.below hb4 L3.lt
     clear hO4
     have hEs:((aR u 64).size:Int)+1≤(u.size:Int):=by omega
     go_wp2_with fail
     rw [HR.out]
     have N5:=ah.new w4 62 #[uk (aR u 64),uk (aZ u 64)]
     have L5:=L4.alloc (.cells #[uk (aR u 64),uk (aZ u 64)] 62)
     have hb5:=(aq b1 hb14).trans ((Below.refl w.heap.size w4).alloc (by have:=(aq b1 hb14).size; omega) (.cells #[uk (aR u 64),uk (aZ u 64)] 62))
     generalize w4.alloc (.cells #[uk (aR u 64),uk (aZ u 64)] 62)=W5 at N5 L5 hb5 ⊢
     have hne:g ≠ w4.heap.size:=by have:=L4.lt; omega
     generalize w4.heap.size=ge at N5 hne ⊢
     have hgw:w.heap.size≤g:=by omega
     clear L1 L3 L4 x0 x1
     refine fQ (fun W9=>(∃ a b,ah W9 g 62 [uk a,uk b])∧ah W9 ge 62 [uk (aR u 64),uk (aZ u 64)]∧Below w.heap.size w W9) (fun W8 W9=>ah W8 g 62 [uk (aR u 64),uk (aZ u 64)]→ah W9 g 62 [uk (aR u 64),uk (aZ u 64)]) (by kernel_rfl) (by kernel_rfl) (by kernel_rfl) ⟨⟨_,_,L5.below (Below.refl _ _).drew L5.lt⟩,N5.below (Below.refl _ _).drew N5.lt,hb5.drew⟩ ?_
     simp only [aw,Act.put,List.setIfInBounds_toArray,List.set_cons_zero,List.set_cons_succ,Nat.zero_add,Nat.reduceAdd]
     refine aG (.agg #[uk (aR u 64),uk (aZ u 64)]) (fun vs w9 hC9 hB K9 hK9=>?_) ?_
     ·obtain ⟨⟨a9,b9,hG9⟩,hN9,hW9⟩:=hC9
      have q0:w9.cell? ⟨ge,0,none⟩=some (uk (aR u 64)):=hN9.cell 0
      have q1:w9.cell? ⟨ge,1,none⟩=some (uk (aZ u 64)):=hN9.cell 1
      go_simp
      exact hK9 _ _ rfl ⟨⟨a9,b9,hG9⟩,hN9,hW9⟩ id
     refine aG (.agg #[uk (aR u 64),uk (aZ u 64)]) (fun vs w9 hC9 hB K9 hK9=>?_) ?_
     ·obtain ⟨⟨a9,b9,hG9⟩,hN9,hW9⟩:=hC9
      have q0:w9.cell? ⟨ge,0,none⟩=some (uk (aR u 64)):=hN9.cell 0
      have q1:w9.cell? ⟨ge,1,none⟩=some (uk (aZ u 64)):=hN9.cell 1
      go_simp
      exact hK9 _ _ rfl ⟨⟨a9,b9,hG9⟩,hN9,hW9⟩ id
     refine aG (.bool true) (fun vs w9 hC9 hB K9 hK9=>?_) ?_
     ·have hd1:=hB 1 _ (by kernel_rfl) rfl
      simp only [hd1] at hK9 ⊢
      obtain ⟨⟨a9,b9,hG9⟩,hN9,hW9⟩:=hC9
      go_simp
      refine (HG.out _).mono ?_
      rintro e8 w8 ⟨rfl,hb8⟩
      exact hK9 _ _ rfl ⟨⟨a9,b9,hG9.below hb8 hG9.lt⟩,hN9.below hb8 hN9.lt,hW9.trans (hb8.mono hW9.size)⟩ (fun h=>h.below hb8 h.lt)
     refine aG (.bool true) (fun vs w9 hC9 hB K9 hK9=>?_) ?_
     ·have hd2:=hB 2 _ (by kernel_rfl) rfl
      simp only [hd2] at hK9 ⊢
      obtain ⟨⟨a9,b9,hG9⟩,hN9,hW9⟩:=hC9
      go_simp
      exact hK9 _ _ rfl ⟨⟨a9,b9,hG9⟩,hN9,hW9⟩ id
     refine aG (O U (k:Int)) (fun vs w9 hC9 hB K9 hK9=>?_) ?_
     ·have hd3:=hB 3 _ (by kernel_rfl) rfl
      simp only [hd3] at hK9 ⊢
      obtain ⟨⟨a9,b9,hG9⟩,hN9,hW9⟩:=hC9
      go_simp
      exact hK9 _ _ rfl ⟨⟨a9,b9,hG9⟩,hN9,hW9⟩ id
     refine aG (.agg #[uk (aR u 64),uk (aZ u 64)]) (fun vs w9 hC9 hB K9 hK9=>?_) ?_
     ·have hd3:=hB 3 _ (by kernel_rfl) rfl
      simp only [hd3] at hK9 ⊢
      obtain ⟨⟨a9,b9,hG9⟩,hN9,hW9⟩:=hC9
      have q0:w9.cell? ⟨ge,0,none⟩=some (uk (aR u 64)):=hN9.cell 0
      have q1:w9.cell? ⟨ge,1,none⟩=some (uk (aZ u 64)):=hN9.cell 1
      go_simp
      exact hK9 _ _ rfl ⟨⟨a9,b9,hG9⟩,hN9,hW9⟩ id
     refine aG (uk ln) (fun vs w9 hC9 hB K9 hK9=>?_) ?_
     ·have hd3:=hB 3 _ (by kernel_rfl) rfl
      have hd4:=hB 4 _ (by kernel_rfl) rfl
      have hd5:=hB 5 _ (by kernel_rfl) rfl
      simp only [hd3,hd4,hd5] at hK9 ⊢
      obtain ⟨⟨a9,b9,hG9⟩,hN9,hW9⟩:=hC9
      go_simp
      refine (HLn.out _).mono ?_
      rintro e8 w8 ⟨rfl,hb8⟩
      exact hK9 _ _ rfl ⟨⟨a9,b9,hG9.below hb8 hG9.lt⟩,hN9.below hb8 hN9.lt,hW9.trans (hb8.mono hW9.size)⟩ (fun h=>h.below hb8 h.lt)
     refine aG (uk s) (fun vs w9 hC9 hB K9 hK9=>?_) ?_
     ·have hd3:=hB 3 _ (by kernel_rfl) rfl
      simp only [hd3] at hK9 ⊢
      obtain ⟨⟨a9,b9,hG9⟩,hN9,hW9⟩:=hC9
      go_simp
      exact hK9 _ _ rfl ⟨⟨a9,b9,hG9⟩,hN9,hW9⟩ id
     refine aG (uk (s++⟨#[10]⟩)) (fun vs w9 hC9 hB K9 hK9=>?_) ?_
     ·have hd3:=hB 3 _ (by kernel_rfl) rfl
      have hd7:=hB 7 _ (by kernel_rfl) rfl
      simp only [hd3,hd7] at hK9 ⊢
      obtain ⟨⟨a9,b9,hG9⟩,hN9,hW9⟩:=hC9
      go_simp
      (first | (rw [if_neg (by omega)]; go_simp) | skip)
      exact hK9 _ _ rfl ⟨⟨a9,b9,hG9⟩,hN9,hW9⟩ id
     refine aG (.bool true) (fun vs w9 hC9 hB K9 hK9=>?_) ?_
     ·have hd3:=hB 3 _ (by kernel_rfl) rfl
      have hd6:=hB 6 _ (by kernel_rfl) rfl
      have hd8:=hB 8 _ (by kernel_rfl) rfl
      simp only [hd3,hd6,hd8] at hK9 ⊢
      obtain ⟨⟨a9,b9,hG9⟩,hN9,hW9⟩:=hC9
      have hq:=HEq.out
      go_simp
      exact hK9 _ _ rfl ⟨⟨a9,b9,hG9⟩,hN9,hW9⟩ id
     refine aG (.bool true) (fun vs w9 hC9 hB K9 hK9=>?_) ?_
     ·have hd3:=hB 3 _ (by kernel_rfl) rfl
      have hd9:=hB 9 _ (by kernel_rfl) rfl
      simp only [hd3,hd9] at hK9 ⊢
      obtain ⟨⟨a9,b9,hG9⟩,hN9,hW9⟩:=hC9
      go_simp
      exact hK9 _ _ rfl ⟨⟨a9,b9,hG9⟩,hN9,hW9⟩ id
     refine iF (fun _ W9=>ah W9 g 62 [uk (aR u 64),uk (aZ u 64)]) (fun _ _ _ h hT=>hT h) (fun vs w9 hC9 hB K9 hK9=>?_) ?_
     ·have hd0:=hB 0 _ (by kernel_rfl) rfl
      simp only [hd0] at hK9 ⊢
      obtain ⟨⟨a9,b9,hG9⟩,hN9,hW9⟩:=hC9
      have q0:w9.cell? ⟨g,0,none⟩=some (uk a9):=hG9.cell 0
      have q1:w9.cell? ⟨g,1,none⟩=some (uk b9):=hG9.cell 1
      have f0:=hG9.frozen 0
      have f1:=hG9.frozen 1
      have hS:ah ((w9.setCell ⟨g,0,none⟩ (uk (aR u 64))).setCell ⟨g,1,none⟩ (uk (aZ u 64))) g 62 [uk (aR u 64),uk (aZ u 64)]:=(hG9.set 0 (uk (aR u 64))).set 1 (uk (aZ u 64))
      have hN:ah ((w9.setCell ⟨g,0,none⟩ (uk (aR u 64))).setCell ⟨g,1,none⟩ (uk (aZ u 64))) ge 62 [uk (aR u 64),uk (aZ u 64)]:=(hN9.other (p:=⟨g,0,none⟩) (Ne.symm hne) _).other (p:=⟨g,1,none⟩) (Ne.symm hne) _
      have hW:=(hW9.setCell (p:=⟨g,0,none⟩) hgw (uk (aR u 64))).setCell (p:=⟨g,1,none⟩) hgw (uk (aZ u 64))
      go_simp
      exact hK9 _ undef _ rfl hS ⟨⟨_,_,hS⟩,hN,hW⟩ (fun _=>hS)
     refine aG (.bool true) (fun vs w9 hC9 hB K9 hK9=>?_) ?_
     ·have hd10:=hB 10 _ (by kernel_rfl) rfl
      simp only [hd10] at hK9 ⊢
      obtain ⟨⟨a9,b9,hG9⟩,hN9,hW9⟩:=hC9
      go_simp
      exact hK9 _ _ rfl ⟨⟨a9,b9,hG9⟩,hN9,hW9⟩ id
     refine i8 fun vs W9 hC9 hB=>?_
     have hv12:=hB 12 _ rfl
     have hS:=hB 11 _ rfl
     obtain ⟨_,_,hW9⟩:=hC9
     simp only [hv12]
     have c0:=hS.cell 0
     have c1:=hS.cell 1
     simp only [List.getElem?_cons_zero,List.getElem?_cons_succ] at c0 c1
     clear hS hB hv12
     go_wp2_with fail
     refine bodyPost_ret (v:=.tuple #[.agg #[uk (aR u 64),uk (aZ u 64)],.bool true]) (by simp [results,Tryz.results128,go_sem, *]) rfl ⟨aR u 64,aZ u 64,true,rfl,.inl ⟨rfl,HD.out⟩,hW9⟩
    ·have HD:Hid (dG k (bl s)=none):=by rw [Hid,hdec,if_neg (fun h=>heq h.2)]
     have HEq:Hid ((ln.toList == (s++⟨#[10]⟩ : ByteArray).toList)=false):=by rw [Hid,kv]; exact decide_eq_false (fun h=>heq (by rw [← hbln,h,dP]; rfl))
     clear hpre hsplit hbu hbx hdec hok heq hln hbln
     go_enter Tryz.func128,Tryz.ntmps128
     go_wp2_with fail
     generalize w.alloc (.cells #[uk ⟨#[]⟩,uk ⟨#[]⟩] 62)=W at b1 L1 ⊢
     generalize hg:w.heap.size=g at L1 ⊢
     refine (HN.out _).mono ?_
     rintro e w2 ⟨rfl,hb2⟩
     go_wp2_with fail
     refine (HSp.out _).mono ?_
     rintro e w3 ⟨A3,c3,rfl,hO3,hb3⟩
     obtain ⟨g3,rfl,x0,hg3,hg3'⟩:=HFirst.out _ _ _ _ hO3
     have hb13:=aq hb2 hb3
     have L3:=L1.below hb13 L1.lt
     clear hO3
     go_wp2_with fail
     rw [← HU.out]
     refine (HSu.out _).mono ?_
     rintro e w4 ⟨A4,c4,rfl,hO4,hb4⟩
     obtain ⟨g4,rfl,x1,hg4,hg4'⟩:=HFirstU.out _ _ _ _ hO4
     have hb14:=aq hb13 hb4
     have L4:=L3.below hb4 L3.lt
     clear hO4
     have hEs:((aR u 64).size:Int)+1≤(u.size:Int):=by omega
     go_wp2_with fail
     rw [HR.out]
     have N5:=ah.new w4 62 #[uk (aR u 64),uk (aZ u 64)]
     have L5:=L4.alloc (.cells #[uk (aR u 64),uk (aZ u 64)] 62)
     have hb5:=(aq b1 hb14).trans ((Below.refl w.heap.size w4).alloc (by have:=(aq b1 hb14).size; omega) (.cells #[uk (aR u 64),uk (aZ u 64)] 62))
     generalize w4.alloc (.cells #[uk (aR u 64),uk (aZ u 64)] 62)=W5 at N5 L5 hb5 ⊢
     have hne:g ≠ w4.heap.size:=by have:=L4.lt; omega
     generalize w4.heap.size=ge at N5 hne ⊢
     have hgw:w.heap.size≤g:=by omega
     clear L1 L3 L4 x0 x1
     refine fQ (fun W9=>(∃ a b,ah W9 g 62 [uk a,uk b])∧ah W9 ge 62 [uk (aR u 64),uk (aZ u 64)]∧Below w.heap.size w W9) (fun W8 W9=>ah W8 g 62 [uk (aR u 64),uk (aZ u 64)]→ah W9 g 62 [uk (aR u 64),uk (aZ u 64)]) (by kernel_rfl) (by kernel_rfl) (by kernel_rfl) ⟨⟨_,_,L5.below (Below.refl _ _).drew L5.lt⟩,N5.below (Below.refl _ _).drew N5.lt,hb5.drew⟩ ?_
     simp only [aw,Act.put,List.setIfInBounds_toArray,List.set_cons_zero,List.set_cons_succ,Nat.zero_add,Nat.reduceAdd]
     refine aG (.agg #[uk (aR u 64),uk (aZ u 64)]) (fun vs w9 hC9 hB K9 hK9=>?_) ?_
     ·obtain ⟨⟨a9,b9,hG9⟩,hN9,hW9⟩:=hC9
      have q0:w9.cell? ⟨ge,0,none⟩=some (uk (aR u 64)):=hN9.cell 0
      have q1:w9.cell? ⟨ge,1,none⟩=some (uk (aZ u 64)):=hN9.cell 1
      go_simp
      exact hK9 _ _ rfl ⟨⟨a9,b9,hG9⟩,hN9,hW9⟩ id
     refine aG (.agg #[uk (aR u 64),uk (aZ u 64)]) (fun vs w9 hC9 hB K9 hK9=>?_) ?_
     ·obtain ⟨⟨a9,b9,hG9⟩,hN9,hW9⟩:=hC9
      have q0:w9.cell? ⟨ge,0,none⟩=some (uk (aR u 64)):=hN9.cell 0
      have q1:w9.cell? ⟨ge,1,none⟩=some (uk (aZ u 64)):=hN9.cell 1
      go_simp
      exact hK9 _ _ rfl ⟨⟨a9,b9,hG9⟩,hN9,hW9⟩ id
     refine aG (.bool true) (fun vs w9 hC9 hB K9 hK9=>?_) ?_
     ·have hd1:=hB 1 _ (by kernel_rfl) rfl
      simp only [hd1] at hK9 ⊢
      obtain ⟨⟨a9,b9,hG9⟩,hN9,hW9⟩:=hC9
      go_simp
      refine (HG.out _).mono ?_
      rintro e8 w8 ⟨rfl,hb8⟩
      exact hK9 _ _ rfl ⟨⟨a9,b9,hG9.below hb8 hG9.lt⟩,hN9.below hb8 hN9.lt,hW9.trans (hb8.mono hW9.size)⟩ (fun h=>h.below hb8 h.lt)
     refine aG (.bool true) (fun vs w9 hC9 hB K9 hK9=>?_) ?_
     ·have hd2:=hB 2 _ (by kernel_rfl) rfl
      simp only [hd2] at hK9 ⊢
      obtain ⟨⟨a9,b9,hG9⟩,hN9,hW9⟩:=hC9
      go_simp
      exact hK9 _ _ rfl ⟨⟨a9,b9,hG9⟩,hN9,hW9⟩ id
     refine aG (O U (k:Int)) (fun vs w9 hC9 hB K9 hK9=>?_) ?_
     ·have hd3:=hB 3 _ (by kernel_rfl) rfl
      simp only [hd3] at hK9 ⊢
      obtain ⟨⟨a9,b9,hG9⟩,hN9,hW9⟩:=hC9
      go_simp
      exact hK9 _ _ rfl ⟨⟨a9,b9,hG9⟩,hN9,hW9⟩ id
     refine aG (.agg #[uk (aR u 64),uk (aZ u 64)]) (fun vs w9 hC9 hB K9 hK9=>?_) ?_
     ·have hd3:=hB 3 _ (by kernel_rfl) rfl
      simp only [hd3] at hK9 ⊢
      obtain ⟨⟨a9,b9,hG9⟩,hN9,hW9⟩:=hC9
      have q0:w9.cell? ⟨ge,0,none⟩=some (uk (aR u 64)):=hN9.cell 0
      have q1:w9.cell? ⟨ge,1,none⟩=some (uk (aZ u 64)):=hN9.cell 1
      go_simp
      exact hK9 _ _ rfl ⟨⟨a9,b9,hG9⟩,hN9,hW9⟩ id
     refine aG (uk ln) (fun vs w9 hC9 hB K9 hK9=>?_) ?_
     ·have hd3:=hB 3 _ (by kernel_rfl) rfl
      have hd4:=hB 4 _ (by kernel_rfl) rfl
      have hd5:=hB 5 _ (by kernel_rfl) rfl
      simp only [hd3,hd4,hd5] at hK9 ⊢
      obtain ⟨⟨a9,b9,hG9⟩,hN9,hW9⟩:=hC9
      go_simp
      refine (HLn.out _).mono ?_
      rintro e8 w8 ⟨rfl,hb8⟩
      exact hK9 _ _ rfl ⟨⟨a9,b9,hG9.below hb8 hG9.lt⟩,hN9.below hb8 hN9.lt,hW9.trans (hb8.mono hW9.size)⟩ (fun h=>h.below hb8 h.lt)
     refine aG (uk s) (fun vs w9 hC9 hB K9 hK9=>?_) ?_
     ·have hd3:=hB 3 _ (by kernel_rfl) rfl
      simp only [hd3] at hK9 ⊢
      obtain ⟨⟨a9,b9,hG9⟩,hN9,hW9⟩:=hC9
      go_simp
      exact hK9 _ _ rfl ⟨⟨a9,b9,hG9⟩,hN9,hW9⟩ id
     refine aG (uk (s++⟨#[10]⟩)) (fun vs w9 hC9 hB K9 hK9=>?_) ?_
     ·have hd3:=hB 3 _ (by kernel_rfl) rfl
      have hd7:=hB 7 _ (by kernel_rfl) rfl
      simp only [hd3,hd7] at hK9 ⊢
      obtain ⟨⟨a9,b9,hG9⟩,hN9,hW9⟩:=hC9
      go_simp
      (first | (rw [if_neg (by omega)]; go_simp) | skip)
      exact hK9 _ _ rfl ⟨⟨a9,b9,hG9⟩,hN9,hW9⟩ id
     refine aG (.bool false) (fun vs w9 hC9 hB K9 hK9=>?_) ?_
     ·have hd3:=hB 3 _ (by kernel_rfl) rfl
      have hd6:=hB 6 _ (by kernel_rfl) rfl
      have hd8:=hB 8 _ (by kernel_rfl) rfl
      simp only [hd3,hd6,hd8] at hK9 ⊢
      obtain ⟨⟨a9,b9,hG9⟩,hN9,hW9⟩:=hC9
      have hq:=HEq.out
      go_simp
      exact hK9 _ _ rfl ⟨⟨a9,b9,hG9⟩,hN9,hW9⟩ id
     refine aG (.bool false) (fun vs w9 hC9 hB K9 hK9=>?_) ?_
     ·have hd3:=hB 3 _ (by kernel_rfl) rfl
      have hd9:=hB 9 _ (by kernel_rfl) rfl
      simp only [hd3,hd9] at hK9 ⊢
      obtain ⟨⟨a9,b9,hG9⟩,hN9,hW9⟩:=hC9
      go_simp
      exact hK9 _ _ rfl ⟨⟨a9,b9,hG9⟩,hN9,hW9⟩ id
     refine iF (fun _ W9=>ah W9 g 62 [uk (aR u 64),uk (aZ u 64)]) (fun _ _ _ h hT=>hT h) (fun vs w9 hC9 hB K9 hK9=>?_) ?_
     ·have hd0:=hB 0 _ (by kernel_rfl) rfl
      simp only [hd0] at hK9 ⊢
      obtain ⟨⟨a9,b9,hG9⟩,hN9,hW9⟩:=hC9
      have q0:w9.cell? ⟨g,0,none⟩=some (uk a9):=hG9.cell 0
      have q1:w9.cell? ⟨g,1,none⟩=some (uk b9):=hG9.cell 1
      have f0:=hG9.frozen 0
      have f1:=hG9.frozen 1
      have hS:ah ((w9.setCell ⟨g,0,none⟩ (uk (aR u 64))).setCell ⟨g,1,none⟩ (uk (aZ u 64))) g 62 [uk (aR u 64),uk (aZ u 64)]:=(hG9.set 0 (uk (aR u 64))).set 1 (uk (aZ u 64))
      have hN:ah ((w9.setCell ⟨g,0,none⟩ (uk (aR u 64))).setCell ⟨g,1,none⟩ (uk (aZ u 64))) ge 62 [uk (aR u 64),uk (aZ u 64)]:=(hN9.other (p:=⟨g,0,none⟩) (Ne.symm hne) _).other (p:=⟨g,1,none⟩) (Ne.symm hne) _
      have hW:=(hW9.setCell (p:=⟨g,0,none⟩) hgw (uk (aR u 64))).setCell (p:=⟨g,1,none⟩) hgw (uk (aZ u 64))
      go_simp
      exact hK9 _ undef _ rfl hS ⟨⟨_,_,hS⟩,hN,hW⟩ (fun _=>hS)
     refine aG (.bool false) (fun vs w9 hC9 hB K9 hK9=>?_) ?_
     ·have hd10:=hB 10 _ (by kernel_rfl) rfl
      simp only [hd10] at hK9 ⊢
      obtain ⟨⟨a9,b9,hG9⟩,hN9,hW9⟩:=hC9
      go_simp
      exact hK9 _ _ rfl ⟨⟨a9,b9,hG9⟩,hN9,hW9⟩ id
     refine i8 fun vs W9 hC9 hB=>?_
     have hv12:=hB 12 _ rfl
     have hS:=hB 11 _ rfl
     obtain ⟨_,_,hW9⟩:=hC9
     simp only [hv12]
     have c0:=hS.cell 0
     have c1:=hS.cell 1
     simp only [List.getElem?_cons_zero,List.getElem?_cons_succ] at c0 c1
     clear hS hB hv12
     go_wp2_with fail
     refine bodyPost_ret (v:=.tuple #[.agg #[uk (aR u 64),uk (aZ u 64)],.bool false]) (by simp [results,Tryz.results128,go_sem, *]) rfl ⟨aR u 64,aZ u 64,false,rfl,.inr ⟨rfl,HD.out⟩,hW9⟩
  ·have HD:Hid (dG k (bl s)=none):=oK (by rw [← hbx]; exact hsplit) hat
   have hwh:(aR u 64).size=u.size:=by unfold aR; rw [← ao,bK,← ao]; exact rm.2 hat
   have d3:(((aR u 64).size:Int) == (u.size:Int))=true:=by rw [hwh]; simp
   clear hpre hsplit hbu hat hbx hwh
   go_enter Tryz.func128,Tryz.ntmps128
   go_wp2_with fail
   generalize w.alloc (.cells #[uk ⟨#[]⟩,uk ⟨#[]⟩] 62)=W at b1 L1 ⊢
   generalize hg:w.heap.size=g at L1 ⊢
   refine (HN.out _).mono ?_
   rintro e w2 ⟨rfl,hb2⟩
   go_wp2_with fail
   refine (HSp.out _).mono ?_
   rintro e w3 ⟨A3,c3,rfl,hO3,hb3⟩
   obtain ⟨g3,rfl,x0,hg3,hg3'⟩:=HFirst.out _ _ _ _ hO3
   have hb13:=aq hb2 hb3
   have L3:=L1.below hb13 L1.lt
   clear hO3
   go_wp2_with fail
   rw [← HU.out]
   refine (HSu.out _).mono ?_
   rintro e w4 ⟨A4,c4,rfl,hO4,hb4⟩
   obtain ⟨g4,rfl,x1,hg4,hg4'⟩:=HFirstU.out _ _ _ _ hO4
   have hb14:=aq hb13 hb4
   have L4:=L3.below hb4 L3.lt
   clear hO4
   have c0:=L4.cell 0
   have c1:=L4.cell 1
   have f0:=L4.frozen 0
   have f1:=L4.frozen 1
   have hgl:=L4.lt
   simp only [List.getElem?_cons_zero,List.getElem?_cons_succ] at c0 c1
   clear L1 L4
   go_wp2_with fail
   refine bodyPost_ret (v:=.tuple #[.agg #[uk ⟨#[]⟩,uk ⟨#[]⟩],.bool false]) (by simp [results,Tryz.results128,go_sem, *]) rfl ⟨⟨#[]⟩,⟨#[]⟩,false,rfl,.inr ⟨rfl,HD.out⟩, ?_⟩
   rw [← hg] at *
   exact (aq b1 hb14).trans (by repeat (first | exact Below.refl _ _ | refine Below.alloc ?_ (by simp; have:=b1.size; have:=hb14.size; omega) _ | refine Below.setCell ?_ (by simp) _))
 ·have HD:Hid (dG k (bl s)=none):=nJ (by rw [← hbx]; exact hpre)
  by_cases hsz:x.size < p.size
  ·have d1:decide ((x.size:Int) < (t.size:Int)+1)=true:=decide_eq_true (by omega)
   clear hpre hbx hp hsz
   go_enter Tryz.func128,Tryz.ntmps128
   go_wp2_with fail
   generalize w.alloc (.cells #[uk ⟨#[]⟩,uk ⟨#[]⟩] 62)=W at b1 L1 ⊢
   generalize hg:w.heap.size=g at L1 ⊢
   refine (HN.out _).mono ?_
   rintro e w2 ⟨rfl,hb2⟩
   go_wp2_with fail
   refine (HSp.out _).mono ?_
   rintro e w3 ⟨A3,c3,rfl,hO3,hb3⟩
   obtain ⟨g3,rfl,x0,hg3,hg3'⟩:=HFirst.out _ _ _ _ hO3
   have hb13:=aq hb2 hb3
   have L3:=L1.below hb13 L1.lt
   clear hO3
   have c0:=L3.cell 0
   have c1:=L3.cell 1
   have f0:=L3.frozen 0
   have f1:=L3.frozen 1
   have hgl:=L3.lt
   simp only [List.getElem?_cons_zero,List.getElem?_cons_succ] at c0 c1
   clear L1 L3
   go_wp2_with fail
   refine bodyPost_ret (v:=.tuple #[.agg #[uk ⟨#[]⟩,uk ⟨#[]⟩],.bool false]) (by simp [results,Tryz.results128,go_sem, *]) rfl ⟨⟨#[]⟩,⟨#[]⟩,false,rfl,.inr ⟨rfl,HD.out⟩, ?_⟩
   rw [← hg] at *
   exact (aq b1 hb13).trans (by repeat (first | exact Below.refl _ _ | refine Below.alloc ?_ (by simp; have:=b1.size; have:=hb13.size; omega) _ | refine Below.setCell ?_ (by simp) _))
  ·have d1:decide ((x.size:Int) < (t.size:Int)+1)=false:=decide_eq_false (by omega)
   have d2:((x.extract 0 (t.size+1)).toList == (t++⟨#[32]⟩).toList)=false:=by
    rw [kv]; refine decide_eq_false fun e=>hpre ?_
    rw [HPre.out,bE,List.drop_zero] at e
    rw [← e]; exact List.take_prefix _ _
   have i1:(t.size:Int)+1≤(x.size:Int):=by omega
   clear hpre hbx hp hsz
   go_enter Tryz.func128,Tryz.ntmps128
   go_wp2_with fail
   generalize w.alloc (.cells #[uk ⟨#[]⟩,uk ⟨#[]⟩] 62)=W at b1 L1 ⊢
   generalize hg:w.heap.size=g at L1 ⊢
   refine (HN.out _).mono ?_
   rintro e w2 ⟨rfl,hb2⟩
   go_wp2_with fail
   refine (HSp.out _).mono ?_
   rintro e w3 ⟨A3,c3,rfl,hO3,hb3⟩
   obtain ⟨g3,rfl,x0,hg3,hg3'⟩:=HFirst.out _ _ _ _ hO3
   have hb13:=aq hb2 hb3
   have L3:=L1.below hb13 L1.lt
   clear hO3
   have c0:=L3.cell 0
   have c1:=L3.cell 1
   have f0:=L3.frozen 0
   have f1:=L3.frozen 1
   have hgl:=L3.lt
   simp only [List.getElem?_cons_zero,List.getElem?_cons_succ] at c0 c1
   clear L1 L3
   go_wp2_with fail
   refine bodyPost_ret (v:=.tuple #[.agg #[uk ⟨#[]⟩,uk ⟨#[]⟩],.bool false]) (by simp [results,Tryz.results128,go_sem, *]) rfl ⟨⟨#[]⟩,⟨#[]⟩,false,rfl,.inr ⟨rfl,HD.out⟩, ?_⟩
   rw [← hg] at *
   exact (aq b1 hb13).trans (by repeat (first | exact Below.refl _ _ | refine Below.alloc ?_ (by simp; have:=b1.size; have:=hb13.size; omega) _ | refine Below.setCell ?_ (by simp) _))
def il (s:ByteArray) (w:World) (e:Ending) (w' : World):Prop:=∃ A c m,e=.returned (.tuple #[.slice A m.length c,.int .i64 (dJ (aW 60 0 (bl s)):Nat)])∧iL (aW 60 0 (bl s)) m ∧
 w'.ownsRow w.heap.size 62 2 (.slice A m.length c) m.length (m.flatMap fu.enc)∧Below w.heap.size w w'
theorem rR (x:ByteArray) (b:UInt8) (n:Nat) (hn:n=(aH b (bl x)).length):Hid (∀ (W:World) (B:Nat) (A:Option Addr) (c:Nat),W.ownsRow B 9 1 (.slice A n c) n (dn (aH b (bl x)))→∃ g,A=some ⟨g,0,none⟩∧W.cell? ⟨g,0,none⟩=some (.string (aR x b))∧B≤g∧g < W.heap.size):=fun W B A c h=>by
 subst hn; exact jg h
set_option maxRecDepth 100000 in
set_option maxHeartbeats 8000000 in
theorem lI (s:ByteArray) (w:World) (hs:s.size≤1000000) :
  Calls Tryz.prog 77 #[.string s] w (il s w):=by
 have b0:=(Below.refl w.heap.size w).alloc (Nat.le_refl _) (.cells #[] 62)
 have O0:Hid ((w.alloc (.cells #[] 62)).ownsRow w.heap.size 62 2 (.slice (some ⟨w.heap.size,0,none⟩) 0 0) 0 (([] : List fu).flatMap fu.enc)):=cP (ah.new w 62 #[]) (Nat.le_refl _)
 go_enter Tryz.func77,Tryz.ntmps77
 go_wp2
 have HZ:Hid (aW 60 0 (bl s) = []++aW (60 - 0) 0 ((bl s).drop 0)):=rfl
 go_loopw [4,5,6,7,8] (fun r at' _ _ _ wr=>∃ (a:Nat) (A:Option Addr) (c:Nat) (m:List fu) (acc:List ((List UInt8 × List UInt8) × Nat)),m.length≤60∧a≤s.size∧r=.slice A m.length c∧at'=.int .i64 a∧(∃ q:an w.heap.size w,wr=q.val) ∧
  Hid (iL acc m)∧Hid (dJ acc=a)∧Hid (aW 60 0 (bl s)=acc++aW (60 - m.length) m.length ((bl s).drop a))∧Hid (wr.ownsRow w.heap.size 62 2 (.slice A m.length c) m.length (m.flatMap fu.enc))) (fun r _ _ _ _ _=>60 - lenOf r)
 case atStart=>exact ⟨0,some ⟨w.heap.size,0,none⟩,0,[],[],by simp,Nat.zero_le _,rfl,rfl,⟨⟨_,b0⟩,rfl⟩,rfl,rfl,HZ,O0⟩
 case round =>
  obtain ⟨a,A,c,m,acc,hm,ha,rfl,rfl,⟨q,rfl⟩,HA,HL,HF,HR⟩:=hrel
  have DONE:aW (60 - m.length) m.length ((bl s).drop a) = []→∀ W',Below q.val.heap.size q.val W'→il s w (.returned (.tuple #[.slice A m.length c,.int .i64 (a:Nat)])) W':=fun h W' hb=>by
   have h1:=HF.out
   rw [h,List.append_nil] at h1
   exact ⟨A,c,m,by rw [h1,HL.out],by rw [h1]; exact HA.out,ac HR.out hb,(q.go (Nat.le_refl _) hb).below⟩
  by_cases hlt:a < s.size
  ·by_cases hm60:m.length < 60
   ·obtain ⟨n,hn⟩ : ∃ n,60 - m.length=n+1:=⟨59 - m.length,by omega⟩
    obtain ⟨x,hx⟩ : ∃ x:ByteArray,x=s.extract a s.size:=⟨_,rfl⟩
    have hbx:bl x=(bl s).drop a:=by rw [hx,bE,List.take_of_length_le (by rw [ao]; exact Nat.le_refl _)]
    have hxs:x.size≤1000000:=by rw [← ao,hbx,List.length_drop,ao]; omega
    have HSp:Hid (∀ W,Calls Tryz.prog 58 #[.string (s.extract a s.size),.int .u8 10] W fun e w'=>∃ A c,e=.returned (.slice A (aH 10 (bl x)).length c)∧w'.ownsRow W.heap.size 9 1 (.slice A (aH 10 (bl x)).length c) (aH 10 (bl x)).length (dn (aH 10 (bl x)))∧Below W.heap.size W w'):=fun W=>by
     rw [← hx]; exact gW x 10 W (by omega)
    have hys:(aR x 10).size≤1000000:=by unfold aR; rw [← ao,bK]; have:=jV 10 (bl x); rw [ao] at this; omega
    have hyb:bl (aR x 10)=dF 10 (bl x):=by unfold aR; rw [bK]
    have hyz:(aR x 10).size=(dF 10 (bl x)).length:=by rw [← ao,hyb]
    obtain ⟨ps,hps,hps0⟩:=gj 10 (bl x)
    have hlen:(aH 10 (bl x)).length=ps.length+1:=by rw [hps]; rfl
    have hpl:(aH 10 (bl x)).length≤1000001:=by have:=fz 10 (bl x) []; rw [ao] at this; unfold aH; omega
    obtain ⟨n0,hn0⟩ : ∃ n,n=(aH 10 (bl x)).length:=⟨_,rfl⟩
    have HFirst:=rR x 10 n0 hn0
    rw [← hn0] at HSp hlen hpl
    have HDc:=Lib.hid (fun W=>pu m.length (aR x 10) W (by omega) hys)
    rw [hn] at DONE HF
    rw [← hbx] at DONE HF
    have i1:(a:Int)≤(s.size:Int):=by omega
    by_cases h1:(10:UInt8) ∈ bl x
    ·have hn2:2≤n0:=by
      rcases ps with _ | ⟨p,ps⟩
      ·exact absurd h1 (hps0.1 rfl)
      ·simp at hlen; omega
     have hp:=congrArg List.length (dr h1)
     have hxl:(bl x).length=s.size - a:=by rw [hbx,List.length_drop,ao]
     simp only [List.length_append,List.length_cons,List.length_drop,hxl,← hyz] at hp
     have hda:a+(aR x 10).size+1≤s.size:=by omega
     obtain ⟨y,hy⟩ : ∃ y:ByteArray,y=aR x 10:=⟨_,rfl⟩
     rw [← hy] at hyb hyz hys HDc HFirst hda
     have HBad:Hid (dG m.length (bl y)=none→∀ W',Below q.val.heap.size q.val W'→il s w (.returned (.tuple #[.slice A m.length c,.int .i64 (a:Nat)])) W'):=fun h=>DONE (es (by rw [← hyb]; exact h))
     have HGood:Hid (∀ ra rb,dG m.length (bl y)=some (ra,rb)→aW 60 0 (bl s)=(acc++[((ra,rb),y.size+1)])++aW (60 - (m.length+1)) (m.length+1) ((bl s).drop (a+(y.size+1)))):=fun ra rb h=>by
      have e1:=dH (n:=n) h1 (by rw [← hyb]; exact h)
      have e2:60 - (m.length+1)=n:=by omega
      rw [HF.out,e1,e2,← hyz,hbx,List.drop_drop]
      simp
     have i3:(a:Int)+(y.size:Int)+1≤(s.size:Int):=by omega
     clear DONE h1 hx hbx hn hp hxl hyb hyz hy hps hps0 hlen hn0
     go_wp2_with fail
     refine (HSp.out _).mono ?_
     rintro e w3 ⟨A3,c3,rfl,hO3,hb3⟩
     obtain ⟨g3,rfl,x0,hg3,hg3'⟩:=HFirst.out _ _ _ _ hO3
     go_wp2_with fail
     refine (HDc.out _).mono ?_
     rintro e w4 ⟨ra,rb,ok,rfl,hdec,hb4⟩
     obtain ⟨_,hgg,x4,_,_⟩:=HFirst.out _ _ _ _ (ac hO3 (hb4.alloc hb4.size (.cells #[.string ra,.string rb] 62)))
     injection hgg with hgg; injection hgg with hgg _; subst hgg
     clear x0
     have hb34:=aq hb3 (hb4.alloc hb4.size (.cells #[.string ra,.string rb] 62))
     cases ok
     ·have HD:=Lib.hid (HBad.out (by rcases hdec with ⟨h,_⟩ | ⟨_,h⟩; cases h; exact h) _ hb34)
      clear hdec hO3
      go_wp2_with fail
      go_ret2
      exact HD.out
     ·have hdec' : dG m.length (bl y)=some (bl ra,bl rb):=by rcases hdec with ⟨_,h⟩ | ⟨h,_⟩; exact h; cases h
      have HF2:=Lib.hid (HGood.out _ _ hdec')
      clear hdec hdec'
      have HR4:=Lib.hid (ac HR.out hb34)
      have HO3:=Lib.hid (ac hO3 (hb4.alloc hb4.size (.cells #[.string ra,.string rb] 62)))
      clear hO3
      have hqs:=q.size
      have hsz4:w.heap.size≤(w4.alloc (.cells #[.string ra,.string rb] 62)).heap.size:=Nat.le_trans hqs hb34.size
      go_wp2_with (at_builtin; refine bY (w0:=w4.alloc (.cells #[.string ra,.string rb] 62)) rfl (.tmp 39) (.tmp 41) 58 rfl 62 _ 2 32 Tryz.underlying58 qY rfl (by omega) (by omega) w.heap.size _ _ _ rfl HR4 #[.string ra,.string rb] 1 _ rfl (by first | rfl | simp | exact Array.size_push _) rfl (by simp [Value.oneCell']) (by omega) hsz4 rfl rfl rfl rfl ?_; intro v5 w5 HO5 hg5 hb5; obtain ⟨_,hgg,x5,_,_⟩:=HFirst.out _ _ _ _ (ej HO3.out HR4.out (show (62:TypeId) ≠ 9 by decide) hg5); injection hgg with hgg; injection hgg with hgg _; subst hgg)
      obtain ⟨A5,c5,hv5⟩:=av HO5.out
      subst hv5
      go_roundw
      case rel =>
       refine ⟨a+(y.size+1),A5,c5,m++[⟨ra,rb⟩],acc++[((bl ra,bl rb),y.size+1)],by simp; omega,by omega,by simp,by go_num,⟨(q.go (Nat.le_refl _) hb34).go' hb5,rfl⟩, ?_, ?_, ?_, ?_⟩
       ·have h1:=HA.out; unfold iL at h1; unfold iL Hid; simp [h1]
       ·have h1:=HL.out; unfold Hid; rw [← h1]; simp [dJ]
       ·have h1:=HF2.out; rw [Hid]; simpa using h1
       ·have h1:=HO5.out; rw [Hid]; simpa [fu.enc] using h1
      case measure=>simp [lenOf]; omega
    ·obtain rfl:n0=1:=by rw [hps0.2 h1] at hlen; exact hlen
     have HD:=Lib.hid (DONE (eh h1))
     clear DONE h1 hx hbx hn hyb hyz hps hps0 hlen hn0
     go_wp2_with fail
     refine (HSp.out _).mono ?_
     rintro e w3 ⟨A3,c3,rfl,hO3,hb3⟩
     obtain ⟨g3,rfl,x0,hg3,hg3'⟩:=HFirst.out _ _ _ _ hO3
     clear hO3
     go_wp2_with fail
     refine (HDc.out _).mono ?_
     rintro e w4 ⟨ra,rb,ok,rfl,hdec,hb4⟩
     clear hdec
     have hb34:=aq hb3 (hb4.alloc hb4.size (.cells #[.string ra,.string rb] 62))
     have HD4:=Lib.hid (HD.out _ hb34)
     go_wp2_with fail
     go_ret2
     exact HD4.out
   ·have HD:Hid (il s w (.returned (.tuple #[.slice A m.length c,.int .i64 (a:Nat)])) q.val):=DONE (by rw [show 60 - m.length=0 by omega]; rfl) _ (Below.refl _ _)
    clear DONE
    go_wp2
    go_ret2
    exact HD.out
  ·have HD:Hid (il s w (.returned (.tuple #[.slice A m.length c,.int .i64 (a:Nat)])) q.val):=DONE (eh (by rw [List.drop_eq_nil_of_le (by rw [ao]; omega)]; simp)) _ (Below.refl _ _)
   clear DONE
   go_wp2
   go_ret2
   exact HD.out
set_option maxRecDepth 100000 in
set_option maxHeartbeats 4000000 in
theorem mH (l:Lg) (w:World) (hs:l.D.size+l.P.size≤2000000) :
  Calls Tryz.prog 40 #[l.val] w fun e w'=>e=.returned (.bool l.ok)∧Below w.heap.size w w':=by
 have b1:=(Below.refl w.heap.size w).alloc (Nat.le_refl _) (.cells #[uk l.D,uk l.P,O U l.n] 27)
 have L1:=ah.new w 27 #[uk l.D,uk l.P,O U l.n]
 have hbl:bl (l.D++l.P)=bl l.D++bl l.P:=dP _ _
 have hz:(l.D++l.P).size=l.D.size+l.P.size:=eI _ _
 have hok:=@eV (bl l.D) (bl l.P) l.n
 rw [← hbl] at hok
 rw [ao,ao] at hok
 by_cases hbig:30000 < l.D.size+l.P.size
 ·have HOK:Hid (l.ok=false):=by
   unfold Hid Lg.ok
   rw [Bool.eq_false_iff]
   intro h
   have h1:=ls (by rw [← hbl,ao,ao]; exact (hok.1 h).1)
   rw [ao,ao] at h1; omega
  have d0:decide (30000 < (l.D.size:Int)+(l.P.size:Int))=true:=decide_eq_true (by omega)
  clear hok hbig
  go_enter Tryz.func40,Tryz.ntmps40
  go_wp2_with fail
  go_ret
  exact ⟨by rw [HOK.out]; rfl,b1⟩
 ·have d0:decide (30000 < (l.D.size:Int)+(l.P.size:Int))=false:=decide_eq_false (by omega)
  have hs3:l.D.size+l.P.size≤30000:=by omega
  have HA:=Lib.hid (fun W=>lI (l.D++l.P) W (by omega))
  have HB:=Lib.hid (fun W=>lI l.D W (by omega))
  have hlen:=dL 60 0 (bl (l.D++l.P))
  have hroom:=iy 60 0 (bl (l.D++l.P))
  have hroomD:=iy 60 0 (bl l.D)
  rw [ao] at hroom hroomD
  obtain ⟨k0,hk0⟩ : ∃ k0,k0=(aW 60 0 (bl (l.D++l.P))).length:=⟨_,rfl⟩
  obtain ⟨z,hzz⟩ : ∃ z,z=dJ (aW 60 0 (bl (l.D++l.P))):=⟨_,rfl⟩
  obtain ⟨y,hyy⟩ : ∃ y,y=dJ (aW 60 0 (bl l.D)):=⟨_,rfl⟩
  have HA2:Hid (∀ W,Calls Tryz.prog 77 #[uk (l.D++l.P)] W fun e w'=>∃ A c k,k=k0∧e=.returned (.tuple #[F A k c,O U (z:Nat)])∧Below W.heap.size W w'):=fun W=>by
   refine (HA.out W).mono ?_
   rintro e w' ⟨A,c,m,rfl,hm,_,hb⟩
   exact ⟨A,c,m.length,by rw [mG hm,hk0],by rw [hzz],hb⟩
  have HB2:Hid (∀ W,Calls Tryz.prog 77 #[uk l.D] W fun e w'=>∃ A c k,e=.returned (.tuple #[F A k c,O U (y:Nat)])∧Below W.heap.size W w'):=fun W=>by
   refine (HB.out W).mono ?_
   rintro e w' ⟨A,c,m,rfl,hm,_,hb⟩
   exact ⟨A,c,m.length,by rw [hyy],hb⟩
  rw [← hk0,← hzz,← hyy] at hok
  rw [← hk0] at hlen
  rw [← hzz] at hroom
  rw [← hyy] at hroomD
  have HOK:Hid (l.ok=(decide (z=l.D.size+l.P.size) && decide (y=l.D.size) && decide ((k0:Int)=l.n))):=by
   unfold Hid Lg.ok
   rw [Bool.eq_iff_iff,hok]
   simp [and_assoc]
  clear hok hbl hk0 hzz hyy HA HB hbig
  go_enter Tryz.func40,Tryz.ntmps40
  go_wp2_with fail
  generalize w.alloc (.cells #[uk l.D,uk l.P,O U l.n] 27)=W at b1 L1 ⊢
  generalize hg:w.heap.size=g at L1 ⊢
  refine (HA2.out _).mono ?_
  rintro e w2 ⟨A,c,k,rfl,rfl,hb2⟩
  have L2:=L1.below hb2 L1.lt
  have c0:=L2.cell 0
  have c1:=L2.cell 1
  have c2:=L2.cell 2
  simp only [List.getElem?_cons_zero,List.getElem?_cons_succ] at c0 c1 c2
  clear L1
  go_wp2_with fail
  refine (HB2.out _).mono ?_
  rintro e w3 ⟨A',c',k',rfl,hb3⟩
  have L3:=L2.below hb3 L2.lt
  clear c0 c1 c2
  have c0:=L3.cell 0
  have c1:=L3.cell 1
  have c2:=L3.cell 2
  simp only [List.getElem?_cons_zero,List.getElem?_cons_succ] at c0 c1 c2
  have hbb:Below w.heap.size w w3:=by rw [← hg] at *; exact aq b1 (aq hb2 hb3)
  clear L2 L3
  by_cases e1:z=l.D.size+l.P.size
  ·rw [decide_eq_true e1] at HOK
   have d1:((z:Int) == (l.D.size:Int)+(l.P.size:Int))=true:=by rw [e1]; simp
   by_cases e2:y=l.D.size
   ·rw [decide_eq_true e2] at HOK
    have d2:((y:Int) == (l.D.size:Int))=true:=by rw [e2]; simp
    by_cases e3:(k:Int)=l.n
    ·rw [decide_eq_true e3] at HOK
     have d3:((k:Int) == l.n)=true:=by rw [e3]; simp
     clear e1 e2 e3
     go_wp2_with fail
     go_ret
     exact ⟨by rw [HOK.out]; rfl,hbb⟩
    ·rw [decide_eq_false e3] at HOK
     have d3:((k:Int) == l.n)=false:=by simp [e3]
     clear e1 e2 e3
     go_wp2_with fail
     go_ret
     exact ⟨by rw [HOK.out]; rfl,hbb⟩
   ·rw [decide_eq_false e2] at HOK
    have d2:((y:Int) == (l.D.size:Int))=false:=by simp; omega
    clear e1 e2
    go_wp2_with fail
    go_ret
    exact ⟨by rw [HOK.out]; rfl,hbb⟩
  ·rw [decide_eq_false e1] at HOK
   have d1:((z:Int) == (l.D.size:Int)+(l.P.size:Int))=false:=by simp; omega
   clear e1
   go_wp2_with fail
   go_ret
   exact ⟨by rw [HOK.out]; rfl,hbb⟩
end Go.Proofs.YtoeoimhemojdeaaGreatDoor
namespace Go.Proofs.YtoeoimhemojdeaaGreatDoor
open Go.ChangeShapes Go.WideShapes Go.ChangeAt Go.RowKit Go.Deep
section
variable {H:Type} {enc:TypeId × Value→H} {P:Program} {w:World} {base:Nat} {spare:Nat→Bool} {held:Bool}
theorem gX {e:TypeId} {fs:Array Field} {n:Nat} {cs:List Value} {x:DataW H × List MemPlace} (he:P.underlying e=some (.struct fs)) (hone:oneCellFields P fs=true) (hC:P.cellsOf e=fs.size)
  (h:DataW.trod enc P w base spare held n e cs=some x) :
  cs.length=fs.size∧∀ (j:Nat) (f:Field),fs[j]?=some f→∃ v m y,cs[j]?=some v∧DataW.trod enc P w base spare held m f.type [v]=some y:=by
 obtain ⟨ys,n',_,_,hlen,hyl,hf⟩:=DataW.trod_struct he h
 refine ⟨by rw [hlen,hC],fun j f hj=>?_⟩
 obtain ⟨ho,hk⟩:=hone_of hone j f hj
 have hjl:j < fs.size:=(Array.getElem?_eq_some_iff.1 hj).1
 have hjc:j < cs.length:=by rw [hlen,hC]; exact hjl
 have h1:=hf j f hj
 rw [ho,hk,List.drop_eq_getElem_cons hjc] at h1
 have hys:ys[j]?=some (ys[j]'(by omega)):=List.getElem?_eq_getElem (by omega)
 exact ⟨_,n',_,List.getElem?_eq_getElem hjc,h1.trans hys⟩
theorem rS {w:World} {a:Addr} {u:Value} (h:w.cell? a=some u):∃ b off,a=⟨b,off,none⟩∧b < w.heap.size:=by
 obtain ⟨b,off,sp⟩:=a
 cases sp with
 | none=>exact ⟨b,off,rfl,block_lt_of_cell h⟩
 | some s =>
  simp only [World.cell?] at h
  split at h <;> simp_all
theorem pv {t e:TypeId} {k n:Nat} {v:Value} {x:DataW H × List MemPlace} (ht:P.underlying t=some (.slice e)) (hk:P.cellsOf e=k) (hk0:0 < k)
  (h:DataW.trod enc P w base spare held n t [v]=some x) :
  ∃ A len cap,v=.slice A len cap∧∃ css:List (List Value),css.length=len∧aY w w.heap.size k A len css.flatten ∧
   ∀ cs ∈ css,cs.length=k∧∃ m y,DataW.trod enc P w base spare held m e cs=some y:=by
 rcases open_slice ht h with ⟨h0,_⟩ | ⟨a,len,cap,m,n',D,Pl,hcs,hb,hl,hm,hmm,hx,hi⟩
 ·have:v=.slice none 0 0:=by simpa using h0
  exact ⟨none,0,0,this,[],rfl,aY.nil _ _ _ _,by simp⟩
 ·have hv:v=.slice (some a) len cap:=by simpa using hcs
  have hle:len≤m:=by rw [hmm]; split <;> omega
  rw [hk] at hi
  have hsel:∀ i:Nat,∃ cs:List Value,cs.length=k∧(i < len→(∀ j u,cs[j]?=some u→w.cell? ((a.add (i * k)).add j)=some u)∧∃ m y,DataW.trod enc P w base spare held m e cs=some y):=fun i=>by
   by_cases hlt:i < len
   ·obtain ⟨cs',hc,ht'⟩:=hi i (by omega)
    obtain ⟨_,hcl,hat⟩:=World.cells?_some hc
    exact ⟨cs',hcl,fun _=>⟨fun j u hu=>by
     have hj:j < cs'.length:=(List.getElem?_eq_some_iff.1 hu).1
     rw [hat j (by omega),hu],_,_,ht'⟩⟩
   ·exact ⟨List.replicate k undef,by simp,fun h=>absurd h hlt⟩
  obtain ⟨f,hf⟩:=Classical.axiomOfChoice hsel
  have hfk:∀ i,(f i).length=k:=fun i=>(hf i).1
  have hlen:=fL f k hfk (List.range len)
  rw [List.length_range,List.flatMap_def] at hlen
  refine ⟨some a,len,cap,hv,(List.range len).map f,by simp,⟨hlen,by unfold maxLen at hm; omega,fun hpos=>?_⟩, ?_⟩
  ·have h00:(f 0)[0]?=some ((f 0)[0]'(by rw [hfk]; exact hk0)):=List.getElem?_eq_getElem _
   have hc0:=((hf 0).2 hpos).1 0 _ h00
   rw [Nat.zero_mul] at hc0
   obtain ⟨b,off,rfl,hb'⟩:=rS (a:=a) hc0
   refine ⟨b,off,rfl,hb',fun j u hu=>?_⟩
   have hj:j < len * k:=by rw [← hlen]; exact (List.getElem?_eq_some_iff.1 hu).1
   have hi' : j / k < len:=Nat.div_lt_of_lt_mul (by rw [Nat.mul_comm]; exact hj)
   have hr:j % k < k:=Nat.mod_lt _ hk0
   have e:j=j / k * k+j % k:=by rw [Nat.mul_comm]; exact (Nat.div_add_mod j k).symm
   have hat:=jj f k hfk (List.range len) (j / k) (by simpa using hi') (j % k) hr
   rw [List.flatMap_def,← e,List.getElem_range,hu] at hat
   have hc:=((hf (j / k)).2 hi').1 (j % k) u hat.symm
   have hadd:((⟨b,off,none⟩ : Addr).add (j / k * k)).add (j % k)=⟨b,off+j,none⟩:=by
    unfold Addr.add
    by_cases h1:j / k * k=0 <;> by_cases h2:j % k=0 <;> simp [h1,h2] <;> omega
   rw [hadd] at hc
   exact hc
  ·intro cs hcs
   obtain ⟨i,hi,rfl⟩:=List.mem_map.1 hcs
   exact ⟨hfk i,((hf i).2 (List.mem_range.1 hi)).2⟩
end
theorem kY {α:Type} (enc:α→List Value):∀ css:List (List Value),(∀ cs ∈ css,∃ x,cs=enc x)→∃ l:List α,css.flatten=l.flatMap enc∧l.length=css.length
 | [],_=>⟨[],rfl,rfl⟩
 | cs :: css,h=>by
  obtain ⟨x,hx⟩:=h cs (by simp)
  obtain ⟨l,hl,hn⟩:=kY enc css (fun c hc=>h c (by simp [hc]))
  exact ⟨x :: l,by simp [hl,hx],by simp [hn]⟩
section
variable {H:Type} {enc:TypeId × Value→H} {P:Program} {w:World} {base:Nat} {spare:Nat→Bool} {held:Bool}
theorem im {t:TypeId} {n:Nat} {v:Value} {x:DataW H × List MemPlace} (ht:P.underlying t=some (.int .i64)) (h:DataW.trod enc P w base spare held n t [v]=some x) :
  ∃ m:Int,v=.int .i64 m∧-9223372036854775808≤m∧m≤9223372036854775807:=by
 obtain ⟨m,e,_,hw⟩:=DataW.trod_int ht h
 refine ⟨m,by simpa using e, ?_⟩
 simp [Lit.wf,IntKind.min,IntKind.max,IntKind.signed,IntKind.bits] at hw
 omega
end
def io (P:Program) (fs:Array Field):Bool:=fs.all fun f=>match P.underlying f.type with | some (.int .i64)=>true | _=>false
theorem om {P:Program} {fs:Array Field} (h:io P fs=true) (j:Nat) (f:Field) (hj:fs[j]?=some f):P.underlying f.type=some (.int .i64):=by
 have:=(Array.all_eq_true_iff_forall_mem.1 h) f (Array.mem_of_getElem? hj)
 split at this
 ·assumption
 ·cases this
section
variable {H:Type} {enc:TypeId × Value→H} {P:Program} {w:World} {base:Nat} {spare:Nat→Bool} {held:Bool}
theorem gB {e:TypeId} {fs:Array Field} {n k:Nat} {cs:List Value} {x:DataW H × List MemPlace} (he:P.underlying e=some (.struct fs)) (hone:oneCellFields P fs=true) (hC:P.cellsOf e=fs.size) (hint:io P fs=true) (hk:fs.size=k)
  (h:DataW.trod enc P w base spare held n e cs=some x):∃ ns:List Int,ns.length=k∧cs=ns.map (Value.int .i64):=by
 obtain ⟨hl,hf⟩:=gX he hone hC h
 subst hk
 refine ⟨cs.map fun v=>match v with | .int _ m=>m | _=>0,by simpa using hl,List.ext_getElem? fun j=>?_⟩
 rw [List.getElem?_map,List.getElem?_map]
 by_cases hj:j < cs.length
 ·obtain ⟨v,m,y,hv,hy⟩:=hf j (fs[j]'(by omega)) (Array.getElem?_eq_getElem (by omega))
  obtain ⟨z,rfl,_,_⟩:=im (om hint j _ (Array.getElem?_eq_getElem (by omega))) hy
  rw [hv]; rfl
 ·rw [List.getElem?_eq_none (by omega)]; rfl
end
end Go.Proofs.YtoeoimhemojdeaaGreatDoor
namespace Go.Proofs.YtoeoimhemojdeaaGreatDoor
open Go.RowKit
def fu.need (e:fu):Nat:=e.c.size+e.r.size
def dD (k:Int) (n:Nat):Int:=if (n:Int)≤k then k - n else -1
def Lg.need (l:Lg):Nat:=l.D.size+l.P.size
set_option maxHeartbeats 1000000 in
theorem rT (l:Lg) (k:Int) (w:World) (h1:l.D.size≤9223372036854775807) (h2:l.P.size≤9223372036854775807) (hk:0≤k) (hk' : k≤1048576) :
  Calls Tryz.prog 9 #[l.val,O U k] w fun en w'=>en=.returned (O U (dD k l.need))∧Below w.heap.size w w':=by
 have hb0:=(Below.refl w.heap.size w).alloc (Nat.le_refl _) (.cells #[uk l.D,uk l.P,O U l.n] 23)
 by_cases ha:(l.D.size:Int)≤k
 ·have d1:decide (k - (l.D.size:Int) < 0)=false:=decide_eq_false (by omega)
  by_cases hb:(l.D.size:Int)+l.P.size≤k
  ·have d2:decide (k - (l.D.size:Int) - (l.P.size:Int) < 0)=false:=decide_eq_false (by omega)
   have HN:Hid (dD k l.need=k - (l.D.size:Int) - (l.P.size:Int)):=by unfold dD Lg.need Hid; rw [if_pos (by omega)]; omega
   clear hb
   go_enter Tryz.func9,Tryz.ntmps9
   go_wp2
   go_ret
   exact ⟨by rw [HN.out]; rfl,hb0⟩
  ·have d2:decide (k - (l.D.size:Int) - (l.P.size:Int) < 0)=true:=decide_eq_true (by omega)
   have HN:Hid (dD k l.need = -1):=by unfold dD Lg.need Hid; rw [if_neg (by omega)]
   clear hb
   go_enter Tryz.func9,Tryz.ntmps9
   go_wp2
   go_ret
   exact ⟨by rw [HN.out]; rfl,hb0⟩
 ·have d1:decide (k - (l.D.size:Int) < 0)=true:=decide_eq_true (by omega)
  have HN:Hid (dD k l.need = -1):=by unfold dD Lg.need Hid; rw [if_neg (by omega)]
  clear ha
  go_enter Tryz.func9,Tryz.ntmps9
  go_wp2
  go_ret
  exact ⟨by rw [HN.out]; rfl,hb0⟩
set_option maxHeartbeats 1000000 in
theorem rU (l:Lg) (w:World) :
  Calls Tryz.prog 11 #[l.val] w fun en w'=>en=.returned l.val∧Below w.heap.size w w':=by
 go_enter Tryz.func11,Tryz.ntmps11
 go_wp2
 refine bodyPost_ret (v:=l.val) (by simp [results,Tryz.results11,go_sem, *]) rfl ⟨rfl, ?_⟩
 repeat (first | exact Below.refl _ _ | refine Below.alloc ?_ (by simp; try omega) _ | refine Below.setCell ?_ (by simp; try omega) _)
set_option maxHeartbeats 1000000 in
theorem rV (l:Lg) (w:World) :
  Calls Tryz.prog 55 #[l.val,l.val] w fun en w'=>en=.returned (.bool true)∧Below w.heap.size w w':=by
 have s0:(l.D.toList != l.D.toList)=false:=by simp
 have s1:(l.P.toList != l.P.toList)=false:=by simp
 have s2:(l.n != l.n)=false:=by simp
 go_enter Tryz.func55,Tryz.ntmps55
 go_wp2
 refine bodyPost_ret (v:=.bool true) (by simp [results,Tryz.results55,go_sem, *]) rfl ⟨rfl, ?_⟩
 repeat (first | exact Below.refl _ _ | refine Below.alloc ?_ (by simp; try omega) _ | refine Below.setCell ?_ (by simp; try omega) _)
abbrev aD (x:aL) (l:Lg):Value:=.agg #[F x.TA x.t.length x.tc,F x.OA x.o.length x.oc,O U x.got,O U x.sold,O U x.missed,uk l.D,uk l.P,O U l.n]
noncomputable def dK (x:aL) (l:Lg):Bool:=al x && l.ok
theorem jO {w:World} {g:Nat} {t:TypeId} {x:aL} {l:Lg} (h:ah w g t [F x.TA x.t.length x.tc,F x.OA x.o.length x.oc,O U x.got,O U x.sold,O U x.missed,uk l.D,uk l.P,O U l.n]) (hr:aM w w.heap.size x):bX w w.heap.size g x :=
 ⟨⟨fun p=>(p.cell h.lt).trans (h.cell 0),fun p=>(p.cell h.lt).trans (h.cell 1),fun p=>(p.cell h.lt).trans (h.cell 2),fun p=>(p.cell h.lt).trans (h.cell 3),fun p=>(p.cell h.lt).trans (h.cell 4)⟩,h.lt,hr⟩
set_option maxHeartbeats 1000000 in
theorem eY (x:aL) (l:Lg) (w:World) (h:aM w w.heap.size x) (hs:l.D.size+l.P.size≤2000000) :
  Calls Tryz.prog 45 #[aD x l] w fun e w'=>e=.returned (.bool (dK x l))∧Below w.heap.size w w':=by
 have b1:=(Below.refl w.heap.size w).alloc (Nat.le_refl _) (.cells #[F x.TA x.t.length x.tc,F x.OA x.o.length x.oc,O U x.got,O U x.sold,O U x.missed,uk l.D,uk l.P,O U l.n] 42)
 have L1:=ah.new w 42 #[F x.TA x.t.length x.tc,F x.OA x.o.length x.oc,O U x.got,O U x.sold,O U x.missed,uk l.D,uk l.P,O U l.n]
 have cO:=dA x _ (h.up b1 (Nat.le_refl _))
 have HC:Hid (dK x l=(al x && l.ok)):=rfl
 have cL:=fun W=>mH l W hs
 generalize al x=v1 at cO HC
 generalize l.ok=v2 at cL HC
 cases v1
 ·go_enter Tryz.func45,Tryz.ntmps45
  go_wp2_with fail
  refine cO.mono ?_
  rintro e w1 ⟨rfl,hb1⟩
  go_wp2_with fail
  go_ret
  exact ⟨by rw [HC.out]; rfl,aq b1 hb1⟩
 ·go_enter Tryz.func45,Tryz.ntmps45
  go_wp2_with fail
  refine cO.mono ?_
  rintro e w1 ⟨rfl,hb1⟩
  have M1:=L1.below hb1 L1.lt
  have c5:=M1.cell 5
  have c6:=M1.cell 6
  have c7:=M1.cell 7
  simp only [List.getElem?_cons_zero,List.getElem?_cons_succ] at c5 c6 c7
  go_wp2_with fail
  refine (cL _).mono ?_
  rintro e w2 ⟨rfl,hb2⟩
  go_wp2_with fail
  go_ret
  exact ⟨by rw [HC.out]; rfl,aq b1 (aq hb1 hb2)⟩
set_option maxHeartbeats 1000000 in
theorem dE (x:aL) (l:Lg) (w:World) (h:aM w w.heap.size x) (hs:l.D.size+l.P.size≤2000000) (ht:iR w) :
  Calls Tryz.prog 28 #[aD x l] w fun e w'=>e=.returned (.bool (dK x l))∧Below w.heap.size w w':=by
 have b1:=(Below.refl w.heap.size w).alloc (Nat.le_refl _) (.cells #[F x.TA x.t.length x.tc,F x.OA x.o.length x.oc,O U x.got,O U x.sold,O U x.missed,uk l.D,uk l.P,O U l.n] 42)
 have L1:=ah.new w 42 #[F x.TA x.t.length x.tc,F x.OA x.o.length x.oc,O U x.got,O U x.sold,O U x.missed,uk l.D,uk l.P,O U l.n]
 have ht1:=ht.then b1
 have cO:=aX x _ _ (jO L1 (h.up b1 (Nat.le_refl _)))
 have HC:Hid (dK x l=(al x && l.ok)):=rfl
 have cL:=fun W hW=>kX l W hs hW
 generalize al x=v1 at cO HC
 generalize l.ok=v2 at cL HC
 cases v1
 ·go_enter Tryz.func28,Tryz.ntmps28
  go_wp2_with fail
  refine cO.mono ?_
  rintro e w1 ⟨rfl,hb1⟩
  go_wp2_with fail
  go_ret
  exact ⟨by rw [HC.out]; rfl,aq b1 hb1⟩
 ·go_enter Tryz.func28,Tryz.ntmps28
  go_wp2_with fail
  refine cO.mono ?_
  rintro e w1 ⟨rfl,hb1⟩
  have M1:=L1.below hb1 L1.lt
  have c5:=M1.cell 5
  have c6:=M1.cell 6
  have c7:=M1.cell 7
  simp only [List.getElem?_cons_zero,List.getElem?_cons_succ] at c5 c6 c7
  go_wp2_with fail
  refine (cL _ (ht1.then hb1)).mono ?_
  rintro e w2 ⟨rfl,hb2⟩
  go_wp2_with fail
  go_ret
  exact ⟨by rw [HC.out]; rfl,aq b1 (aq hb1 hb2)⟩
def aL.need (x:aL):Nat:=x.t.length+x.o.length
set_option maxHeartbeats 1000000 in
theorem fJ (x:aL) (l:Lg) (k:Int) (w:World) (hn:x.t.length≤9223372036854775807) (hm:x.o.length≤9223372036854775807) (h1:l.D.size≤9223372036854775807) (h2:l.P.size≤9223372036854775807) (hk:0≤k) (hk' : k≤1048576) :
  Calls Tryz.prog 13 #[aD x l,O U k] w fun e w'=>e=.returned (O U (dD (bO k (x.t.length+x.o.length)) l.need))∧Below w.heap.size w w':=by
 have b1:=(Below.refl w.heap.size w).alloc (Nat.le_refl _) (.cells #[F x.TA x.t.length x.tc,F x.OA x.o.length x.oc,O U x.got,O U x.sold,O U x.missed,uk l.D,uk l.P,O U l.n] 35)
 have L1:=ah.new w 35 #[F x.TA x.t.length x.tc,F x.OA x.o.length x.oc,O U x.got,O U x.sold,O U x.missed,uk l.D,uk l.P,O U l.n]
 have hc:=fun W=>nQ x k W hn hm hk hk'
 by_cases hle:((x.t.length+x.o.length:Nat):Int)≤k
 ·have he:bO k (x.t.length+x.o.length)=k - ((x.t.length+x.o.length:Nat):Int):=by unfold bO; rw [if_pos hle]
  have hd:=fun W=>rT l (k - ((x.t.length+x.o.length:Nat):Int)) W h1 h2 (by omega) (by omega)
  rw [he] at hc
  have HE:=Lib.hid he
  clear he
  obtain ⟨k1,hk1⟩ : ∃ k1,k1=k - ((x.t.length+x.o.length:Nat):Int):=⟨_,rfl⟩
  rw [← hk1] at hc hd HE
  have hk2:decide (k1 < 0)=false:=decide_eq_false (by omega)
  clear hk1
  obtain ⟨k3,hk3⟩ : ∃ k3,k3=dD k1 l.need:=⟨_,rfl⟩
  rw [← hk3] at hd
  have HR:=Lib.hid hk3
  have h3 : -1≤k3:=by rw [hk3]; unfold dD; split <;> omega
  have h4:k3 < 0→k3 = -1:=by rw [hk3]; unfold dD; split <;> omega
  clear hk3
  by_cases h5:k3 < 0
  ·have h6:decide (k3 < 0)=true:=decide_eq_true h5
   have H7:=Lib.hid (h4 h5)
   clear h4 h3
   go_enter Tryz.func13,Tryz.ntmps13
   go_wp2_with fail
   refine (hc _).mono ?_
   rintro e w1 ⟨rfl,hb1⟩
   have M1:=L1.below hb1 L1.lt
   have c5:=M1.cell 5
   have c6:=M1.cell 6
   have c7:=M1.cell 7
   simp only [List.getElem?_cons_zero,List.getElem?_cons_succ] at c5 c6 c7
   go_wp2_with fail
   refine (hd _).mono ?_
   rintro e w2 ⟨rfl,hb2⟩
   go_wp2_with fail
   go_ret
   exact ⟨by rw [HE.out,← HR.out,H7.out]; rfl,aq b1 (aq hb1 hb2)⟩
  ·have h6:decide (k3 < 0)=false:=decide_eq_false h5
   clear h4 h3
   go_enter Tryz.func13,Tryz.ntmps13
   go_wp2_with fail
   refine (hc _).mono ?_
   rintro e w1 ⟨rfl,hb1⟩
   have M1:=L1.below hb1 L1.lt
   have c5:=M1.cell 5
   have c6:=M1.cell 6
   have c7:=M1.cell 7
   simp only [List.getElem?_cons_zero,List.getElem?_cons_succ] at c5 c6 c7
   go_wp2_with fail
   refine (hd _).mono ?_
   rintro e w2 ⟨rfl,hb2⟩
   go_wp2_with fail
   go_ret
   exact ⟨by rw [HE.out,← HR.out]; rfl,aq b1 (aq hb1 hb2)⟩
 ·have he:bO k (x.t.length+x.o.length) = -1:=by unfold bO; rw [if_neg hle]
  rw [he] at hc
  have HE:Hid (dD (bO k (x.t.length+x.o.length)) l.need = -1):=by rw [Hid,he]; unfold dD; rw [if_neg (by omega)]
  clear he
  go_enter Tryz.func13,Tryz.ntmps13
  go_wp2_with fail
  refine (hc _).mono ?_
  rintro e w1 ⟨rfl,hb1⟩
  go_wp2_with fail
  go_ret
  exact ⟨by rw [HE.out]; rfl,aq b1 hb1⟩
set_option maxRecDepth 100000 in
set_option maxHeartbeats 4000000 in
theorem db (x:aL) (l:Lg) (w:World) (h:aM w w.heap.size x) (hn:x.t.length≤1048576) (hm:x.o.length≤1048576) :
  Calls Tryz.prog 15 #[aD x l] w fun e w'=>∃ g1 g2,e=.returned (aD (x.copy g1 g2) l)∧w.heap.size≤g1∧g1 < g2∧ah w' g1 104 (x.t.flatMap ap.enc)∧ah w' g2 147 (x.o.flatMap ae.enc)∧Below w.heap.size w w':=by
 have L1:=((ah.new w 35 #[F x.TA x.t.length x.tc,F x.OA x.o.length x.oc,O U x.got,O U x.sold,O U x.missed,uk l.D,uk l.P,O U l.n]).alloc (.cells #[F none 0 0,F none 0 0,O U 0,O U 0,O U 0,uk ⟨#[]⟩,uk ⟨#[]⟩,O U 0] 42)).alloc (.cells #[F none 0 0,F none 0 0,O U 0,O U 0,O U 0,uk ⟨#[]⟩,uk ⟨#[]⟩,O U 0] 42)
 have L2:=(ah.new1 w (.cells #[F x.TA x.t.length x.tc,F x.OA x.o.length x.oc,O U x.got,O U x.sold,O U x.missed,uk l.D,uk l.P,O U l.n] 35) 42 #[F none 0 0,F none 0 0,O U 0,O U 0,O U 0,uk ⟨#[]⟩,uk ⟨#[]⟩,O U 0]).alloc (.cells #[F none 0 0,F none 0 0,O U 0,O U 0,O U 0,uk ⟨#[]⟩,uk ⟨#[]⟩,O U 0] 42)
 have L3:=ah.new2 w (.cells #[F x.TA x.t.length x.tc,F x.OA x.o.length x.oc,O U x.got,O U x.sold,O U x.missed,uk l.D,uk l.P,O U l.n] 35) (.cells #[F none 0 0,F none 0 0,O U 0,O U 0,O U 0,uk ⟨#[]⟩,uk ⟨#[]⟩,O U 0] 42) 42 #[F none 0 0,F none 0 0,O U 0,O U 0,O U 0,uk ⟨#[]⟩,uk ⟨#[]⟩,O U 0]
 have b1:=(Below.refl w.heap.size w).alloc (Nat.le_refl _) (.cells #[F x.TA x.t.length x.tc,F x.OA x.o.length x.oc,O U x.got,O U x.sold,O U x.missed,uk l.D,uk l.P,O U l.n] 35)
 have b2:=b1.alloc b1.size (.cells #[F none 0 0,F none 0 0,O U 0,O U 0,O U 0,uk ⟨#[]⟩,uk ⟨#[]⟩,O U 0] 42)
 have b3:=b2.alloc b2.size (.cells #[F none 0 0,F none 0 0,O U 0,O U 0,O U 0,uk ⟨#[]⟩,uk ⟨#[]⟩,O U 0] 42)
 clear b1 b2
 go_enter Tryz.func15,Tryz.ntmps15
 go_wp2_with fail
 generalize (((w.alloc (.cells #[F x.TA x.t.length x.tc,F x.OA x.o.length x.oc,O U x.got,O U x.sold,O U x.missed,uk l.D,uk l.P,O U l.n] 35)).alloc (.cells #[F none 0 0,F none 0 0,O U 0,O U 0,O U 0,uk ⟨#[]⟩,uk ⟨#[]⟩,O U 0] 42)).alloc (.cells #[F none 0 0,F none 0 0,O U 0,O U 0,O U 0,uk ⟨#[]⟩,uk ⟨#[]⟩,O U 0] 42))=W3 at L1 L2 L3 b3 ⊢
 refine (kb x W3 (h.up b3 (Nat.le_refl _)) hn hm).mono ?_
 rintro e W4 ⟨g1,g2,rfl,hg1,hg2,hL1,hL2,hb4⟩
 have hs1:=L1.lt
 have hs2:=L2.lt
 have hs3:=L3.lt
 have b4:=b3.trans (hb4.mono b3.size)
 have K1:=L1.below hb4 L1.lt
 have K2:=L2.below hb4 L2.lt
 have K3:=L3.below hb4 L3.lt
 clear L1 L2 L3 h
 have c5:=K1.cell 5
 have c6:=K1.cell 6
 have c7:=K1.cell 7
 have d0:=K3.cell 0
 have f0:=K3.frozen 0
 have d1:=K3.cell 1
 have f1:=K3.frozen 1
 have d2:=K3.cell 2
 have f2:=K3.frozen 2
 have d3:=K3.cell 3
 have f3:=K3.frozen 3
 have d4:=K3.cell 4
 have f4:=K3.frozen 4
 simp only [List.getElem?_cons_zero,List.getElem?_cons_succ] at c5 c6 c7 d0 d1 d2 d3 d4
 have M1:=(((((K1).other (p:=⟨w.heap.size+1+1,0,none⟩) (by simp only; omega) (F (some ⟨g1,0,none⟩) x.t.length x.t.length)).other (p:=⟨w.heap.size+1+1,1,none⟩) (by simp only; omega) (F (some ⟨g2,0,none⟩) x.o.length x.o.length)).other (p:=⟨w.heap.size+1+1,2,none⟩) (by simp only; omega) (O U x.got)).other (p:=⟨w.heap.size+1+1,3,none⟩) (by simp only; omega) (O U x.sold)).other (p:=⟨w.heap.size+1+1,4,none⟩) (by simp only; omega) (O U x.missed)
 have M2:=(((((K2).other (p:=⟨w.heap.size+1+1,0,none⟩) (by simp only; omega) (F (some ⟨g1,0,none⟩) x.t.length x.t.length)).other (p:=⟨w.heap.size+1+1,1,none⟩) (by simp only; omega) (F (some ⟨g2,0,none⟩) x.o.length x.o.length)).other (p:=⟨w.heap.size+1+1,2,none⟩) (by simp only; omega) (O U x.got)).other (p:=⟨w.heap.size+1+1,3,none⟩) (by simp only; omega) (O U x.sold)).other (p:=⟨w.heap.size+1+1,4,none⟩) (by simp only; omega) (O U x.missed)
 have M3:=(((((K3).set 0 (F (some ⟨g1,0,none⟩) x.t.length x.t.length)).set 1 (F (some ⟨g2,0,none⟩) x.o.length x.o.length)).set 2 (O U x.got)).set 3 (O U x.sold)).set 4 (O U x.missed)
 have M4:=(((((hL1).other (p:=⟨w.heap.size+1+1,0,none⟩) (by simp only; omega) (F (some ⟨g1,0,none⟩) x.t.length x.t.length)).other (p:=⟨w.heap.size+1+1,1,none⟩) (by simp only; omega) (F (some ⟨g2,0,none⟩) x.o.length x.o.length)).other (p:=⟨w.heap.size+1+1,2,none⟩) (by simp only; omega) (O U x.got)).other (p:=⟨w.heap.size+1+1,3,none⟩) (by simp only; omega) (O U x.sold)).other (p:=⟨w.heap.size+1+1,4,none⟩) (by simp only; omega) (O U x.missed)
 have M5:=(((((hL2).other (p:=⟨w.heap.size+1+1,0,none⟩) (by simp only; omega) (F (some ⟨g1,0,none⟩) x.t.length x.t.length)).other (p:=⟨w.heap.size+1+1,1,none⟩) (by simp only; omega) (F (some ⟨g2,0,none⟩) x.o.length x.o.length)).other (p:=⟨w.heap.size+1+1,2,none⟩) (by simp only; omega) (O U x.got)).other (p:=⟨w.heap.size+1+1,3,none⟩) (by simp only; omega) (O U x.sold)).other (p:=⟨w.heap.size+1+1,4,none⟩) (by simp only; omega) (O U x.missed)
 have b5:Below w.heap.size w ((((((W4).setCell ⟨w.heap.size+1+1,0,none⟩ (F (some ⟨g1,0,none⟩) x.t.length x.t.length)).setCell ⟨w.heap.size+1+1,1,none⟩ (F (some ⟨g2,0,none⟩) x.o.length x.o.length)).setCell ⟨w.heap.size+1+1,2,none⟩ (O U x.got)).setCell ⟨w.heap.size+1+1,3,none⟩ (O U x.sold)).setCell ⟨w.heap.size+1+1,4,none⟩ (O U x.missed)):=b4.grown (ab (ab (ab (ab (ab (World.grownBy.refl W4 (some (w.heap.size+1+1)))))))) b4.size (by rintro _ ⟨⟩; omega)
 simp only [List.set_cons_zero,List.set_cons_succ] at M3
 clear K1 K2 K3 hL1 hL2
 go_wp2_with fail
 clear c5 c6 c7 d0 f0 d1 f1 d2 f2 d3 f3 d4 f4
 generalize ((((((W4).setCell ⟨w.heap.size+1+1,0,none⟩ (F (some ⟨g1,0,none⟩) x.t.length x.t.length)).setCell ⟨w.heap.size+1+1,1,none⟩ (F (some ⟨g2,0,none⟩) x.o.length x.o.length)).setCell ⟨w.heap.size+1+1,2,none⟩ (O U x.got)).setCell ⟨w.heap.size+1+1,3,none⟩ (O U x.sold)).setCell ⟨w.heap.size+1+1,4,none⟩ (O U x.missed))=W5 at M1 M2 M3 M4 M5 b5 ⊢
 refine (rU l W5).mono ?_
 rintro e W6 ⟨rfl,hb6⟩
 have b6:=b5.trans (hb6.mono b5.size)
 have t1:=M1.lt
 have t2:=M2.lt
 have t3:=M3.lt
 have t4:=M4.lt
 have t5:=M5.lt
 have N2:=M2.below hb6 M2.lt
 have N3:=M3.below hb6 M3.lt
 have N4:=M4.below hb6 M4.lt
 have N5:=M5.below hb6 M5.lt
 clear M1 M2 M3 M4 M5
 have d0:=N3.cell 0
 have e0:=N2.cell 0
 have k0:=N2.frozen 0
 have d1:=N3.cell 1
 have e1:=N2.cell 1
 have k1:=N2.frozen 1
 have d2:=N3.cell 2
 have e2:=N2.cell 2
 have k2:=N2.frozen 2
 have d3:=N3.cell 3
 have e3:=N2.cell 3
 have k3:=N2.frozen 3
 have d4:=N3.cell 4
 have e4:=N2.cell 4
 have k4:=N2.frozen 4
 have d5:=N3.cell 5
 have e5:=N2.cell 5
 have k5:=N2.frozen 5
 have f5:=N3.frozen 5
 have d6:=N3.cell 6
 have e6:=N2.cell 6
 have k6:=N2.frozen 6
 have f6:=N3.frozen 6
 have d7:=N3.cell 7
 have e7:=N2.cell 7
 have k7:=N2.frozen 7
 have f7:=N3.frozen 7
 simp only [List.getElem?_cons_zero,List.getElem?_cons_succ] at d0 d1 d2 d3 d4 d5 d6 d7 e0 e1 e2 e3 e4 e5 e6 e7
 go_wp2
 refine bodyPost_ret (v:=aD (x.copy g1 g2) l) (by simp [results,Tryz.results15,go_sem, *]) rfl ⟨g1,g2,rfl,Nat.le_trans b3.size hg1,hg2, ?_, ?_, ?_⟩
 ·exact ((((((((((N4.other (by simp only; omega) _).other (by simp only; omega) _).other (by simp only; omega) _).other (by simp only; omega) _).other (by simp only; omega) _).other (by simp only; omega) _).other (by simp only; omega) _).other (by simp only; omega) _).other (by simp only; omega) _).other (by simp only; omega) _).other (by simp only; omega) _
 ·exact ((((((((((N5.other (by simp only; omega) _).other (by simp only; omega) _).other (by simp only; omega) _).other (by simp only; omega) _).other (by simp only; omega) _).other (by simp only; omega) _).other (by simp only; omega) _).other (by simp only; omega) _).other (by simp only; omega) _).other (by simp only; omega) _).other (by simp only; omega) _
 ·exact (b6.grown (ab (ab (ab (World.grownBy.refl W6 (some (w.heap.size+1+1)))))) b6.size (by rintro _ ⟨⟩; omega)).grown (ab (ab (ab (ab (ab (ab (ab (ab (World.grownBy.refl _ (some (w.heap.size+1))))))))))) (by simpa using b6.size) (by rintro _ ⟨⟩; omega)
set_option maxHeartbeats 1000000 in
theorem hU (x y:aL) (l:Lg) (w:World) (hx:aM w w.heap.size x) (hy:aM w w.heap.size y) (ht:dd x.t y.t=true) (ho:bW x.o y.o=true) (hg:x.got=y.got) (hs:x.sold=y.sold) (hm:x.missed=y.missed) :
  Calls Tryz.prog 17 #[aD x l,aD y l] w fun e w'=>e=.returned (.bool true)∧Below w.heap.size w w':=by
 have b1:=(Below.refl w.heap.size w).alloc (Nat.le_refl _) (.cells #[F x.TA x.t.length x.tc,F x.OA x.o.length x.oc,O U x.got,O U x.sold,O U x.missed,uk l.D,uk l.P,O U l.n] 42)
 have b2:=b1.alloc b1.size (.cells #[F y.TA y.t.length y.tc,F y.OA y.o.length y.oc,O U y.got,O U y.sold,O U y.missed,uk l.D,uk l.P,O U l.n] 42)
 have L1:=(ah.new w 42 #[F x.TA x.t.length x.tc,F x.OA x.o.length x.oc,O U x.got,O U x.sold,O U x.missed,uk l.D,uk l.P,O U l.n]).alloc (.cells #[F y.TA y.t.length y.tc,F y.OA y.o.length y.oc,O U y.got,O U y.sold,O U y.missed,uk l.D,uk l.P,O U l.n] 42)
 have L2:=ah.new1 w (.cells #[F x.TA x.t.length x.tc,F x.OA x.o.length x.oc,O U x.got,O U x.sold,O U x.missed,uk l.D,uk l.P,O U l.n] 42) 42 #[F y.TA y.t.length y.tc,F y.OA y.o.length y.oc,O U y.got,O U y.sold,O U y.missed,uk l.D,uk l.P,O U l.n]
 clear b1
 have cO:=fun W hX hY=>kc x y W hX hY ht ho hg hs hm
 clear ht ho hg hs hm
 go_enter Tryz.func17,Tryz.ntmps17
 go_wp2_with fail
 generalize ((w.alloc (.cells #[F x.TA x.t.length x.tc,F x.OA x.o.length x.oc,O U x.got,O U x.sold,O U x.missed,uk l.D,uk l.P,O U l.n] 42)).alloc (.cells #[F y.TA y.t.length y.tc,F y.OA y.o.length y.oc,O U y.got,O U y.sold,O U y.missed,uk l.D,uk l.P,O U l.n] 42))=W at b2 L1 L2 ⊢
 refine (cO W (hx.up b2 (Nat.le_refl _)) (hy.up b2 (Nat.le_refl _))).mono ?_
 rintro e w1 ⟨rfl,hb1⟩
 have M1:=L1.below hb1 L1.lt
 have M2:=L2.below hb1 L2.lt
 have c5:=M1.cell 5
 have c6:=M1.cell 6
 have c7:=M1.cell 7
 have d5:=M2.cell 5
 have d6:=M2.cell 6
 have d7:=M2.cell 7
 simp only [List.getElem?_cons_zero,List.getElem?_cons_succ] at c5 c6 c7 d5 d6 d7
 go_wp2_with fail
 refine (rV l _).mono ?_
 rintro e w2 ⟨rfl,hb2⟩
 go_wp2_with fail
 go_ret
 exact ⟨rfl,aq b2 (aq hb1 hb2)⟩
theorem jP {x:aL} {l:Lg} (h:dK x l=true):bo x:=by
 unfold dK at h; rw [Bool.and_eq_true] at h; exact bj.1 h.1
end Go.Proofs.YtoeoimhemojdeaaGreatDoor
