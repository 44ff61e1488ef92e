/- Lemmas. -/
import Derived.Deep.DeepCutAuto
import Derived.Test.YtoeoimhemojdeaaGreatDoorFs29
import Derived.Test.YtoeoimhemojdeaaGreatDoorFs31

set_option linter.unusedVariables false
set_option linter.unusedSimpArgs false
set_option maxHeartbeats 8000000
open Go.Value renaming int → O, slice → F, string → wG
open Go.IntKind renaming i64 → U
open Go.Proofs.Tryz renaming prog → wH

namespace Go.Proofs.YtoeoimhemojdeaaGreatDoor
open Go.RowKit
theorem rl:∀ (l:List aq) (n:Nat) (p:Int),n ≠ 0→du n p l=true→∀ t ∈ l,p < t.k
 | [],_,_,_,_,t,h=>by simp at h
 | r :: l,n,p,hn,hg,t,h=>by
  simp only [du,Bool.and_eq_true,Bool.or_eq_true,decide_eq_true_eq] at hg
  obtain ⟨⟨_,h1⟩,h2⟩:=hg
  have h3:p < r.k:=by rcases h1 with h1 | h1; exact absurd h1 hn; exact h1
  rcases List.mem_cons.1 h with rfl | h
  ·exact h3
  ·have:=rl l (n+1) r.k oM h2 t h; omega
theorem tD:∀ (ts:List aq) (n:Nat) (p:Int) (m:Nat),du n p ts=true→∀ k (h:k < ts.length),bv (fun t:aq=>decide (t.k=ts[k].k)) m ts=((m+k:Nat):Int)
 | [],_,_,_,_,k,h=>by simp at h
 | r :: l,n,p,m,hg,k,h=>by
  simp only [du,Bool.and_eq_true] at hg
  cases k with
  | zero=>simp [bv]
  | succ k =>
   have hk:k < l.length:=by simpa using h
   have h1:=rl l (n+1) r.k oM hg.2 l[k] (List.getElem_mem hk)
   have h2:=tD l (n+1) r.k (m+1) hg.2 k hk
   simp only [List.getElem_cons_succ,bv]
   rw [if_neg (by simp; omega),h2]
   congr 1; omega
theorem rm {x:aO} (G:bK x) {k:Nat} (h:k < x.t.length):ay x.t x.t[k].k=k:=by
 have:=tD x.t 0 0 0 G.ts k h
 rw [Nat.zero_add] at this
 exact this
def om (x:aO) (t:aq):ByteArray:=rk (bM t.c) (bM (aW (bG t.k) x.o))
def vP (x:aO) (t:aq):List UInt8:=Lib.itoa t.k++[58,32]++bl (om x t)++[10]
def jS (x:aO) (ts:List aq):List UInt8:=ts.flatMap (vP x)
def sB (x:aO) (l:Lg):List UInt8:=[103,111,116,32]++Lib.itoa x.gt++[59,32,115,111,108,100,32]++Lib.itoa x.sd++[59,32,109,105,115,115,101,100,32]++Lib.itoa x.ms++[59,32,114,101,99,111,114,100,115,32]++Lib.itoa l.n++[10]
noncomputable def li (x:aO) (l:Lg):ByteArray:=if dx x l=true then ⟨(jS x x.t++sB x l).toArray⟩ else ⟨#[]⟩
theorem oo {x:aO} {k:Nat} (h:k < x.t.length):jS x (x.t.take (k+1))=jS x (x.t.take k)++vP x x.t[k]:=by
 unfold jS; rw [List.take_succ_eq_append_getElem h,List.flatMap_append]; simp
theorem jK {x:aO} {l:Lg} (h:dx x l=true):bK x:=by
 unfold dx at h; rw [Bool.and_eq_true] at h; exact br.1 h.1
theorem pz {x:aO} {l:Lg} (h:dx x l=true):0≤l.n∧l.n≤60:=by
 unfold dx Lg.ok at h; rw [Bool.and_eq_true] at h
 have h1:=(ce.1 h.2).2.2
 have h2:=cW 60 0 (bl l.D++bl l.P)
 omega
theorem pA {x:aO} (G:bK x) {k:Nat} (h:k < x.t.length):(om x x.t[k]).size≤220:=by
 have DB:=fK (bG x.t[k].k) x.t x.o 0 G.oall
 change 0≤aW (bG x.t[k].k) x.o∧aW (bG x.t[k].k) x.o≤_ at DB
 have ol:=G.ol
 have zF:=(aq.bounds (G.tall k h)).2
 have h1:(bM x.t[k].c).size≤100:=bD oM oM
 have h2:(bM (aW (bG x.t[k].k) x.o)).size≤100:=bD oM oM
 unfold om rk
 simp only [ByteArray.size_append]
 have e1:(⟨#[32,105,110,32]⟩ : ByteArray).size=4:=rfl
 have e2:(⟨#[32,111,117,116]⟩ : ByteArray).size=4:=rfl
 omega
set_option maxRecDepth 100000 in
theorem oL (x:aO) (l:Lg) (w:World) (h:aQ w w.heap.size x) (hs:l.D.size+l.P.size≤2000000) (ht:hQ w) :
  Calls wH 33 #[aJ x l] w fun e w'=>e=.returned (.tuple #[wG (li x l),.bool (dx x l)])∧Below w.heap.size w w':=by
 have b0:=bZ w (.cells #[F x.TA x.t.length x.tc,F x.OA x.o.length x.oc,O U x.gt,O U x.sd,O U x.ms,wG l.D,wG l.P,O U l.n] 42)
 have L0:=ai.new w 42 #[F x.TA x.t.length x.tc,F x.OA x.o.length x.oc,O U x.gt,O U x.sd,O U x.ms,wG l.D,wG l.P,O U l.n]
 have hW:=h.up b0 nR
 have IG:=ht.then b0
 have HI:=jZ (fun W h t=>dK x l W h hs t)
 obtain ⟨ok,wP⟩ : ∃ b,dx x l=b:=⟨_,rfl⟩
 rw [wP] at HI
 have xf:=jZ wP
 clear wP
 go_enter Tryz.func33,Tryz.ntmps33
 go_wp2_with fail
 generalize w.alloc (.cells #[F x.TA x.t.length x.tc,F x.OA x.o.length x.oc,O U x.gt,O U x.sd,O U x.ms,wG l.D,wG l.P,O U l.n] 42)=W at b0 L0 hW IG ⊢
 generalize Fz:w.heap.size=g at L0 ⊢
 refine (HI.out W hW IG).mono ?_
 rintro e w1 ⟨rfl,wN⟩
 have L1:=L0.below wN L0.lt
 have yP:=hW.then wN
 have yg:=IG.then wN
 have c1:Below w.heap.size w w1:=av b0 wN
 rw [Fz] at c1
 clear wN L0 hW IG b0
 cases ok with
 | false =>
  have HV:Hid (li x l=⟨#[]⟩):=by unfold li; rw [xf.out]; rfl
  clear L1 yP yg
  go_wp2_with fail
  go_ret2
  rw [HV.out,xf.out]
  exact ⟨rfl,by rw [Fz]; exact c1⟩
 | true =>
  have G:=jK xf.out
  have hn:=pz xf.out
  have HV:Hid (li x l=⟨(jS x x.t++sB x l).toArray⟩):=by unfold li; rw [xf.out]; rfl
  have hat:cw w1 w1.heap.size g x:=jH L1 yP
  obtain ⟨k0,k1,k2,k3,k4,k5,k6,k7⟩:=cells8 L1
  have tl:=G.tl
  have r2:∀ p:ap w1.heap.size w1,p.val.cell? ⟨g,2,none⟩=some (O U x.gt):=fun p=>(p.cell L1.lt).trans k2
  have r3:∀ p:ap w1.heap.size w1,p.val.cell? ⟨g,3,none⟩=some (O U x.sd):=fun p=>(p.cell L1.lt).trans k3
  have r4:∀ p:ap w1.heap.size w1,p.val.cell? ⟨g,4,none⟩=some (O U x.ms):=fun p=>(p.cell L1.lt).trans k4
  have r7:∀ p:ap w1.heap.size w1,p.val.cell? ⟨g,7,none⟩=some (O U l.n):=fun p=>(p.cell L1.lt).trans k7
  have GG:=jZ G
  have Ky:=jZ (And.intro G.g (And.intro G.s (And.intro G.m hn)))
  clear G hn
  go_wp2_with fail
  clear k0 k1 k2 k3 k4 k5 k6 k7
  go_loopw [5,7,17] (fun o _ i wr=>∃ (k:Nat) (s:ByteArray),k≤x.t.length∧i=O U k∧o=wG s∧s.size≤1000 * k∧(∃ q:ap w1.heap.size w1,wr=q.val)∧Hid (bl s=jS x (x.t.take k))) (fun _ _ i _=>x.t.length - (intOf i).toNat)
  case atStart=>exact ⟨0,⟨#[]⟩,Nat.zero_le _,rfl,rfl,Nat.zero_le _,⟨ap.start _ _,rfl⟩,rfl⟩
  case round =>
   obtain ⟨k,s,hk,rfl,rfl,hz,⟨q,rfl⟩,HR⟩:=hrel
   by_cases wQ:k < x.t.length
   ·obtain ⟨bt,ot,yO,zC,zw⟩:=yP.ts.el oM
    obtain ⟨t0,t1⟩:=zw k wQ
    have zP:(k:Int) < (x.t.length:Int):=oM
    have zF:=aq.bounds (GG.out.tall k wQ)
    have BT:=pA GG.out wQ
    have FA:Hid (∀ W:World,cw W W.heap.size g x→hQ W→Calls wH 70 #[.pointer (some ⟨g,0,none⟩),O U x.t[k].k] W fun e w'=>e=.returned (wG (om x x.t[k]))∧Below W.heap.size W w') :=
     fun W hA hT=>gm x g k x.t[k].k W hA GG.out (rm GG.out wQ) wQ hT
    have HN:=jZ (oo (x:=x) wQ)
    obtain ⟨tr,yj⟩ : ∃ tr,x.t[k]=tr:=⟨_,rfl⟩
    rw [yj] at t0 t1 zF BT FA HN
    obtain ⟨tb,za⟩ : ∃ tb,om x tr=tb:=⟨_,rfl⟩
    rw [za] at BT FA
    have Kz:Hid (vP x tr=Lib.itoa tr.k++[58,32]++bl tb++[10]):=by rw [Hid,← za]; rfl
    obtain ⟨kv,Ej⟩ : ∃ s:ByteArray,s=⟨(Lib.itoa tr.k).toArray⟩:=⟨_,rfl⟩
    have Nw:kv.size≤100:=by rw [Ej]; exact bD oM oM
    have NUM:Hid (∀ W:World,hQ W→Calls wH 69 #[O U tr.k] W fun e w'=>e=.returned (wG kv)∧Below W.heap.size W w'):=by
     intro W hW; rw [Ej]; exact cq _ _ oM oM hW
    have KA:Hid (bl kv=Lib.itoa tr.k):=by rw [Ej,Hid,bo]
    clear yj za Ej zF zw
    simp only [yO]
    have ba:=(Below.refl q.val.heap.size q.val).alloc nR (.cells #[O U tr.k,O U tr.c] 104)
    have LT:=ai.new q.val 104 #[O U tr.k,O U tr.c]
    have Hp:=(hat.at q).then ba ba.size
    have KB:=(yg.at q).then ba
    go_upto_region 7 with fail
    generalize q.val.alloc (.cells #[O U tr.k,O U tr.c] 104)=W7 at ba LT Hp KB ⊢
    generalize q.val.heap.size=g7 at LT ⊢
    have j0:∀ p:ap W7.heap.size W7,p.val.cell? ⟨g7,0,none⟩=some (O U tr.k):=fun p=>(p.cell LT.lt).trans (LT.cell 0)
    refine au kZ kZ ?_
    repeat (any_goals (first | go_big_quiet_step ((first | (go_at_call 69; refine aC nR (NUM.out _ (KB.at _))) | (go_at_call 70; refine aC nR (FA.out _ (Hp.at _) (KB.at _))))) | (refine wpQuiet_step (fun K hK=>?_); go_simp; split <;> (refine hK _ ?_; clear hK K))))
    all_goals (refine wpQuiet_nil ?_; rintro _ ⟨q1,rfl⟩)
    all_goals go_wp2
    go_roundw
    case rel =>
     refine ⟨k+1,s++(kv++⟨#[58,32]⟩++tb++⟨#[10]⟩),oM,by go_num,rfl, ?_,⟨q.go nR (av ba q1.below),rfl⟩, ?_⟩
     ·simp only [ByteArray.size_append]
      have e1:(⟨#[58,32]⟩ : ByteArray).size=2:=rfl
      have e2:(⟨#[10]⟩ : ByteArray).size=1:=rfl
      omega
     ·rw [Hid,HN.out,Kz.out,← HR.out,← KA.out]
      simp only [cE]
      rfl
    case measure=>simp [intOf]; omega
   ·have zP : ¬ (k:Int) < (x.t.length:Int):=oM
    obtain ⟨⟨g1,g2⟩,⟨s1,s2⟩,⟨m1,m2⟩,n1,n2⟩:=Ky.out
    have KC:Hid (bl s=jS x x.t):=by
     have h1:=HR.out; rw [List.take_of_length_le oM] at h1; exact h1
    have Nx:s.size≤8000:=oM
    obtain ⟨vg,yx⟩ : ∃ s:ByteArray,s=⟨(Lib.itoa x.gt).toArray⟩:=⟨_,rfl⟩
    have zvg:vg.size≤100:=by rw [yx]; exact bD oM oM
    have NG:Hid (∀ W:World,hQ W→Calls wH 69 #[O U x.gt] W fun e w'=>e=.returned (wG vg)∧Below W.heap.size W w'):=by
     intro W hW; rw [yx]; exact cq _ _ oM oM hW
    have BG:Hid (bl vg=Lib.itoa x.gt):=by rw [yx,Hid,bo]
    clear yx
    obtain ⟨vs,Aj⟩ : ∃ s:ByteArray,s=⟨(Lib.itoa x.sd).toArray⟩:=⟨_,rfl⟩
    have zvs:vs.size≤100:=by rw [Aj]; exact bD oM oM
    have NS:Hid (∀ W:World,hQ W→Calls wH 69 #[O U x.sd] W fun e w'=>e=.returned (wG vs)∧Below W.heap.size W w'):=by
     intro W hW; rw [Aj]; exact cq _ _ oM oM hW
    have BS:Hid (bl vs=Lib.itoa x.sd):=by rw [Aj,Hid,bo]
    clear Aj
    obtain ⟨vm,Ek⟩ : ∃ s:ByteArray,s=⟨(Lib.itoa x.ms).toArray⟩:=⟨_,rfl⟩
    have zvm:vm.size≤100:=by rw [Ek]; exact bD oM oM
    have NM:Hid (∀ W:World,hQ W→Calls wH 69 #[O U x.ms] W fun e w'=>e=.returned (wG vm)∧Below W.heap.size W w'):=by
     intro W hW; rw [Ek]; exact cq _ _ oM oM hW
    have BM:Hid (bl vm=Lib.itoa x.ms):=by rw [Ek,Hid,bo]
    clear Ek
    obtain ⟨vn,El⟩ : ∃ s:ByteArray,s=⟨(Lib.itoa l.n).toArray⟩:=⟨_,rfl⟩
    have zvn:vn.size≤100:=by rw [El]; exact bD oM oM
    have NN:Hid (∀ W:World,hQ W→Calls wH 69 #[O U l.n] W fun e w'=>e=.returned (wG vn)∧Below W.heap.size W w'):=by
     intro W hW; rw [El]; exact cq _ _ oM oM hW
    have BN:Hid (bl vn=Lib.itoa l.n):=by rw [El,Hid,bo]
    clear El
    clear HR hz wQ hat yP GG
    go_wp2_with fail
    refine aX _ kZ kZ ?_
    repeat (any_goals (first | go_big_quiet_step ((first | (go_at_call 69; with_reducible refine aC nR (NG.out _ (yg.at _))) | (go_at_call 69; with_reducible refine aC nR (NS.out _ (yg.at _))) | (go_at_call 69; with_reducible refine aC nR (NM.out _ (yg.at _))) | (go_at_call 69; with_reducible refine aC nR (NN.out _ (yg.at _))))) | (refine wpQuiet_step (fun K hK=>?_); go_simp; split <;> (refine hK _ ?_; clear hK K))))
    all_goals (refine wpQuiet_nil ?_; rintro _ ⟨q1,rfl⟩)
    all_goals go_wp2
    go_ret2
    have HE:Hid (s++⟨#[103,111,116,32]⟩++vg++⟨#[59,32,115,111,108,100,32]⟩++vs++⟨#[59,32,109,105,115,115,101,100,32]⟩++vm++⟨#[59,32,114,101,99,111,114,100,115,32]⟩++vn++⟨#[10]⟩=li x l):=by
     rw [Hid,HV.out]
     apply nY
     rw [bo (jS x x.t++sB x l)]
     unfold sB
     rw [← KC.out,← BG.out,← BS.out,← BM.out,← BN.out]
     simp only [cE,List.append_assoc]
     rfl
    rw [← HE.out,xf.out]
    exact ⟨rfl,by rw [Fz]; exact c1.trans (q1.below.mono (by have:=c1.size; omega))⟩
set_option maxRecDepth 100000 in
theorem oN (x:aO) (l:Lg) (w:World) (h:aQ w w.heap.size x) (hs:l.D.size+l.P.size≤2000000) :
  Calls wH 34 #[aJ x l] w fun e w'=>e=.returned (.tuple #[wG (li x l),.bool (dx x l)])∧Below w.heap.size w w':=by
 have b0:=bZ w (.cells #[F x.TA x.t.length x.tc,F x.OA x.o.length x.oc,O U x.gt,O U x.sd,O U x.ms,wG l.D,wG l.P,O U l.n] 42)
 have L0:=ai.new w 42 #[F x.TA x.t.length x.tc,F x.OA x.o.length x.oc,O U x.gt,O U x.sd,O U x.ms,wG l.D,wG l.P,O U l.n]
 have hW:=h.up b0 nR
 have HI:=jZ (fun W h=>eH x l W h hs)
 obtain ⟨ok,wP⟩ : ∃ b,dx x l=b:=⟨_,rfl⟩
 rw [wP] at HI
 have xf:=jZ wP
 clear wP
 go_enter Tryz.func34,Tryz.ntmps34
 go_wp2_with fail
 generalize w.alloc (.cells #[F x.TA x.t.length x.tc,F x.OA x.o.length x.oc,O U x.gt,O U x.sd,O U x.ms,wG l.D,wG l.P,O U l.n] 42)=W at b0 L0 hW ⊢
 generalize Fz:w.heap.size=g at L0 ⊢
 refine (HI.out W hW).mono ?_
 rintro e w1 ⟨rfl,wN⟩
 have L1:=L0.below wN L0.lt
 have yP:=hW.then wN
 have c1:Below w.heap.size w w1:=av b0 wN
 rw [Fz] at c1
 clear wN L0 hW b0
 cases ok with
 | false =>
  have HV:Hid (li x l=⟨#[]⟩):=by unfold li; rw [xf.out]; rfl
  clear L1 yP
  go_wp2_with fail
  go_ret2
  rw [HV.out,xf.out]
  exact ⟨rfl,by rw [Fz]; exact c1⟩
 | true =>
  have G:=jK xf.out
  have hn:=pz xf.out
  have HV:Hid (li x l=⟨(jS x x.t++sB x l).toArray⟩):=by unfold li; rw [xf.out]; rfl
  have tl:=G.tl
  have GG:=jZ G
  have Ky:=jZ (And.intro G.g (And.intro G.s (And.intro G.m hn)))
  clear G hn
  go_upto_region 3 with fail
  refine al (fun _=>(fun W9=>Below w1.heap.size w1 W9)) (fun i w1 w2=>i ∉ [4]→Below w1.heap.size w1 w2) kZ kZ kZ jB.drew ?_
  simp only [ax,Act.put,sA,gs0,gs1,Nat.zero_add,Nat.reduceAdd]
  refine aa _ vp0 ?_
  refine aa _ (vp1C5 0 L1) ?_
  refine sm [4] (fun v w9=>∃ g9,v=.pointer (some ⟨g9,0,none⟩)∧w1.heap.size≤g9∧ai w9 g9 40 [F none 0 0,F none 0 0,O U 0,O U 0,O U 0]) (fun vs L9 w9 wK wI hB K9 wJ=>?_) ?_
  next =>
   simp only [Act.put,sA,gs0,gs1] at wJ
   go_simp
   have wL:=(Below.refl w9.heap.size w9).alloc nR (.cells #[F none 0 0,F none 0 0,O U 0,O U 0,O U 0] 40)
   exact wJ _ _ _ rfl ⟨_,rfl,wI.size,ai.new w9 40 #[F none 0 0,F none 0 0,O U 0,O U 0,O U 0]⟩ (wI.trans (wL.mono wI.size)) (fun _=>wL)
  refine aa _ vp0 ?_
  refine pm [] 2 (fun u _ w9=>∃ g9,u=.pointer (some ⟨g9,0,none⟩)∧w1.heap.size≤g9∧ai w9 g9 40 [F x.TA x.t.length x.tc,F x.OA x.o.length x.oc,O U x.gt,O U x.sd,O U x.ms]) (fun vs L9 w9 wK wI hB K9 wJ=>?_) ?_
  next =>
   have d1:=fe hB 1
   simp only [d1] at wJ ⊢
   obtain ⟨g9,AH,ym,xx⟩:=fs hB 2
   simp only [AH] at wJ ⊢
   obtain ⟨z0,z1,z2,z3,z4⟩:=cells5 xx
   obtain ⟨f0,f1,f2,f3,f4⟩:=frz5 xx
   have xo:=jZ (show ai _ g9 40 [F x.TA x.t.length x.tc,F x.OA x.o.length x.oc,O U x.gt,O U x.sd,O U x.ms] from (((((xx.set 0 (F x.TA x.t.length x.tc)).set 1 (F x.OA x.o.length x.oc)).set 2 (O U x.gt)).set 3 (O U x.sd)).set 4 (O U x.ms)))
   have xK:=jZ (wI.grown (row:=some g9) (ab (g:=g9) (i:=4) (u:=O U x.ms) (ab (g:=g9) (i:=3) (u:=O U x.sd) (ab (g:=g9) (i:=2) (u:=O U x.gt) (ab (g:=g9) (i:=1) (u:=F x.OA x.o.length x.oc) (ab (g:=g9) (i:=0) (u:=F x.TA x.t.length x.tc) jG))))) wI.size (by rintro _ ⟨⟩; exact ym))
   clear xx
   go_simp
   exact wJ _ undef _ rfl ⟨g9,rfl,ym,xo.out⟩ xK.out nq
  refine ar fun vs L9 w2 wS wI hB=>?_
  obtain ⟨g5,yx,yy,K5⟩:=hB 4 _ rfl rfl dD
  have d3:=ag.eq (hB 3 _ rfl rfl dD)
  simp only [yx,d3]
  clear hB wS yx d3
  have L2:=L1.below wI L1.lt
  have y5:=yP.up wI nR
  have c2:Below g w w2:=c1.trans (wI.mono (by have:=c1.size; omega))
  have k7:=L2.cell 7
  simp only [gz0,gz1] at k7
  have r7:∀ p:ap w2.heap.size w2,p.val.cell? ⟨g,7,none⟩=some (O U l.n):=fun p=>(p.cell L2.lt).trans k7
  obtain ⟨m0,m1,m2,m3,m4⟩:=cells5 K5
  have s0:∀ p:ap w2.heap.size w2,p.val.cell? ⟨g5,0,none⟩=some (F x.TA x.t.length x.tc):=fun p=>(p.cell K5.lt).trans m0
  have s1:∀ p:ap w2.heap.size w2,p.val.cell? ⟨g5,1,none⟩=some (F x.OA x.o.length x.oc):=fun p=>(p.cell K5.lt).trans m1
  have s2:∀ p:ap w2.heap.size w2,p.val.cell? ⟨g5,2,none⟩=some (O U x.gt):=fun p=>(p.cell K5.lt).trans m2
  have s3:∀ p:ap w2.heap.size w2,p.val.cell? ⟨g5,3,none⟩=some (O U x.sd):=fun p=>(p.cell K5.lt).trans m3
  have s4:∀ p:ap w2.heap.size w2,p.val.cell? ⟨g5,4,none⟩=some (O U x.ms):=fun p=>(p.cell K5.lt).trans m4
  clear wI L1 yP c1 k7 m0 m1 m2 m3 m4 K5 L2
  go_wp2_with fail
  go_loopw [4,6] (fun o i wr=>∃ (k:Nat) (s:ByteArray),k≤x.t.length∧i=O U k∧o=wG s∧s.size≤1000 * k∧(∃ q:ap w2.heap.size w2,wr=q.val)∧Hid (bl s=jS x (x.t.take k))) (fun _ i _=>x.t.length - (intOf i).toNat)
  case atStart=>exact ⟨0,⟨#[]⟩,Nat.zero_le _,rfl,rfl,Nat.zero_le _,⟨ap.start _ _,rfl⟩,rfl⟩
  case round =>
   obtain ⟨k,s,hk,rfl,rfl,hz,⟨q,rfl⟩,HR⟩:=hrel
   by_cases wQ:k < x.t.length
   ·obtain ⟨bt,ot,yO,zC,zw⟩:=y5.ts.el oM
    obtain ⟨t0,t1⟩:=zw k wQ
    have zP:(k:Int) < (x.t.length:Int):=oM
    have zF:=aq.bounds (GG.out.tall k wQ)
    have BT:=pA GG.out wQ
    have FA:Hid (∀ W:World,aQ W W.heap.size x→Calls wH 72 #[.agg #[F (some ⟨bt,ot,none⟩) x.t.length x.tc,F x.OA x.o.length x.oc,O U x.gt,O U x.sd,O U x.ms],O U k] W fun e w'=>e=.returned (wG (om x x.t[k]))∧Below W.heap.size W w') :=
     fun W hA=>by rw [← yO]; exact m5 x k x.t[k].k W hA GG.out wQ rfl
    have HN:=jZ (oo (x:=x) wQ)
    obtain ⟨tr,yj⟩ : ∃ tr,x.t[k]=tr:=⟨_,rfl⟩
    rw [yj] at t0 t1 zF BT FA HN
    obtain ⟨tb,za⟩ : ∃ tb,om x tr=tb:=⟨_,rfl⟩
    rw [za] at BT FA
    have Kz:Hid (vP x tr=Lib.itoa tr.k++[58,32]++bl tb++[10]):=by rw [Hid,← za]; rfl
    obtain ⟨kv,Ej⟩ : ∃ s:ByteArray,s=⟨(Lib.itoa tr.k).toArray⟩:=⟨_,rfl⟩
    have Nw:kv.size≤100:=by rw [Ej]; exact bD oM oM
    have NUM:Hid (∀ W:World,Calls wH 71 #[O U tr.k] W fun e w'=>e=.returned (wG kv)∧Below W.heap.size W w'):=by
     intro W; rw [Ej]; exact bP _ _ oM oM
    have KA:Hid (bl kv=Lib.itoa tr.k):=by rw [Ej,Hid,bo]
    have Ny:=jZ y5
    clear yj za Ej zF zw y5
    rw [yO] at s0
    clear yO
    go_upto_region 7 with fail
    refine aX _ kZ kZ ?_
    repeat (any_goals (first | go_big_quiet_step ((first | (go_at_call 71; with_reducible refine aC nR (NUM.out _)) | (go_at_call 72; with_reducible refine aC nR (FA.out _ (Ny.out.up (ap.below _) nR))))) | (refine wpQuiet_step (fun K hK=>?_); go_simp; split <;> (refine hK _ ?_; clear hK K))))
    all_goals (refine wpQuiet_nil ?_; rintro _ ⟨q1,rfl⟩)
    all_goals go_wp2
    go_roundw
    case rel =>
     refine ⟨k+1,s++kv++⟨#[58,32]⟩++tb++⟨#[10]⟩,oM,by go_num,rfl, ?_,⟨q1,rfl⟩, ?_⟩
     ·simp only [ByteArray.size_append]
      have e1:(⟨#[58,32]⟩ : ByteArray).size=2:=rfl
      have e2:(⟨#[10]⟩ : ByteArray).size=1:=rfl
      omega
     ·rw [Hid,HN.out,Kz.out,← HR.out,← KA.out]
      simp only [cE,List.append_assoc]
      rfl
    case measure=>simp [intOf]; omega
   ·have zP : ¬ (k:Int) < (x.t.length:Int):=oM
    obtain ⟨⟨g1,g2⟩,⟨s1',s2'⟩,⟨m1,m2⟩,n1,n2⟩:=Ky.out
    have KC:Hid (bl s=jS x x.t):=by
     have h1:=HR.out; rw [List.take_of_length_le oM] at h1; exact h1
    have Nx:s.size≤8000:=oM
    obtain ⟨vg,yx⟩ : ∃ s:ByteArray,s=⟨(Lib.itoa x.gt).toArray⟩:=⟨_,rfl⟩
    have zvg:vg.size≤100:=by rw [yx]; exact bD oM oM
    have NG:Hid (∀ W:World,Calls wH 71 #[O U x.gt] W fun e w'=>e=.returned (wG vg)∧Below W.heap.size W w'):=by
     intro W; rw [yx]; exact bP _ _ oM oM
    have BG:Hid (bl vg=Lib.itoa x.gt):=by rw [yx,Hid,bo]
    clear yx
    obtain ⟨vs,Aj⟩ : ∃ s:ByteArray,s=⟨(Lib.itoa x.sd).toArray⟩:=⟨_,rfl⟩
    have zvs:vs.size≤100:=by rw [Aj]; exact bD oM oM
    have NS:Hid (∀ W:World,Calls wH 71 #[O U x.sd] W fun e w'=>e=.returned (wG vs)∧Below W.heap.size W w'):=by
     intro W; rw [Aj]; exact bP _ _ oM oM
    have BS:Hid (bl vs=Lib.itoa x.sd):=by rw [Aj,Hid,bo]
    clear Aj
    obtain ⟨vm,Ek⟩ : ∃ s:ByteArray,s=⟨(Lib.itoa x.ms).toArray⟩:=⟨_,rfl⟩
    have zvm:vm.size≤100:=by rw [Ek]; exact bD oM oM
    have NM:Hid (∀ W:World,Calls wH 71 #[O U x.ms] W fun e w'=>e=.returned (wG vm)∧Below W.heap.size W w'):=by
     intro W; rw [Ek]; exact bP _ _ oM oM
    have BM:Hid (bl vm=Lib.itoa x.ms):=by rw [Ek,Hid,bo]
    clear Ek
    obtain ⟨vn,El⟩ : ∃ s:ByteArray,s=⟨(Lib.itoa l.n).toArray⟩:=⟨_,rfl⟩
    have zvn:vn.size≤100:=by rw [El]; exact bD oM oM
    have NN:Hid (∀ W:World,Calls wH 71 #[O U l.n] W fun e w'=>e=.returned (wG vn)∧Below W.heap.size W w'):=by
     intro W; rw [El]; exact bP _ _ oM oM
    have BN:Hid (bl vn=Lib.itoa l.n):=by rw [El,Hid,bo]
    clear El
    clear HR hz wQ y5 GG
    go_wp2_with fail
    refine aX _ kZ kZ ?_
    repeat (any_goals (first | go_big_quiet_step ((first | (go_at_call 71; with_reducible refine aC nR (NG.out _)) | (go_at_call 71; with_reducible refine aC nR (NS.out _)) | (go_at_call 71; with_reducible refine aC nR (NM.out _)) | (go_at_call 71; with_reducible refine aC nR (NN.out _)))) | (refine wpQuiet_step (fun K hK=>?_); go_simp; split <;> (refine hK _ ?_; clear hK K))))
    all_goals (refine wpQuiet_nil ?_; rintro _ ⟨q1,rfl⟩)
    all_goals go_wp2
    go_ret2
    have HE:Hid (s++⟨#[103,111,116,32]⟩++vg++⟨#[59,32,115,111,108,100,32]⟩++vs++⟨#[59,32,109,105,115,115,101,100,32]⟩++vm++⟨#[59,32,114,101,99,111,114,100,115,32]⟩++vn++⟨#[10]⟩=li x l):=by
     rw [Hid,HV.out]
     apply nY
     rw [bo (jS x x.t++sB x l)]
     unfold sB
     rw [← KC.out,← BG.out,← BS.out,← BM.out,← BN.out]
     simp only [cE,List.append_assoc]
     rfl
    rw [← HE.out,xf.out]
    exact ⟨rfl,by rw [Fz]; exact c2.trans (q1.below.mono (by have:=c2.size; omega))⟩
end Go.Proofs.YtoeoimhemojdeaaGreatDoor
