/- Lemmas. -/
import Derived.Deep.RegionHeld3
import Derived.Test.YtoeoimhemojdeaaGreatDoorFs06

set_option linter.unusedVariables false
set_option linter.unusedSimpArgs false
set_option maxHeartbeats 8000000
open Go.Value renaming int → O, slice → F, string → wG
open Go.IntKind renaming i64 → U
open Go.Proofs.Tryz renaming prog → wH

namespace Go.Proofs.YtoeoimhemojdeaaGreatDoor
open Go.RowKit
structure cw (w:World) (B g:Nat) (x:aO):Prop where
 s:nI B w g x
 lt:g < B
 r:aQ w B x
theorem cw.of {w:World} {g:Nat} {t:TypeId} {x:aO} (h:ai w g t x.enc) (hr:aQ w w.heap.size x):cw w w.heap.size g x:=⟨nI.of h,h.lt,hr⟩
theorem cw.then {w w' : World} {B g:Nat} {x:aO} (h:cw w B g x) (hb:Below B w w') {B' : Nat} (hB:B≤B'):cw w' B' g x :=
 ⟨⟨fun p=>h.s.c0 ⟨p.val,hb.trans (p.below.mono hB)⟩,fun p=>h.s.c1 ⟨p.val,hb.trans (p.below.mono hB)⟩,fun p=>h.s.c2 ⟨p.val,hb.trans (p.below.mono hB)⟩,fun p=>h.s.c3 ⟨p.val,hb.trans (p.below.mono hB)⟩,fun p=>h.s.c4 ⟨p.val,hb.trans (p.below.mono hB)⟩⟩,jL h.lt hB,(h.r.below hb).mono hB⟩
theorem cw.at {w:World} {g:Nat} {x:aO} (h:cw w w.heap.size g x) (q:ap w.heap.size w):cw q.val q.val.heap.size g x:=h.then q.below q.size
theorem pL (f:aq→Bool) (g:Nat) (lb:Array Value) (eg:∀ args w,(callFunc g args).run wH w=.ok (.enter g args) w) (A:Option Addr) (c:Nat) (l:List aq) (w:World)
  (hf:∀ (t:aq) (p:ap w.heap.size w),Calls wH g (#[t.val]++lb) p.val fun e w'=>e=.returned (.bool (f t))∧Below p.val.heap.size p.val w') (h:fX w w.heap.size A l) :
  Calls wH 164 #[F A l.length c,.func (.func g) #[] lb] w fun e w'=>e=.returned (O U (bv f 0 l))∧Below w.heap.size w w':=by
 have hl:=h.big
 have yn:=h.el
 have HF:Hid (bv f 0 (l.drop 0)=bv f 0 l):=rfl
 have HC:=jZ hf; clear hf
 go_enter Tryz.func164,Tryz.ntmps164
 go_wp2
 go_loopw [8] (fun i wr=>∃ (k:Nat),k≤l.length∧i=O U k∧(∃ q:ap w.heap.size w,wr=q.val)∧Hid (bv f k (l.drop k)=bv f 0 l)) (fun i _=>l.length - (intOf i).toNat)
 case atStart=>exact ⟨0,Nat.zero_le _,rfl,⟨ap.start _ _,rfl⟩,HF⟩
 case round =>
  obtain ⟨k,hk,rfl,⟨q,rfl⟩,HR⟩:=hrel
  by_cases wQ:k < l.length
  ·obtain ⟨b,off,rfl,hb,hcell⟩:=yn oM
   obtain ⟨c0,c1⟩:=hcell k wQ
   have hy:=fun hv=>td (f:=f) wQ hv
   have hn:=fun hv=>uH (f:=f) wQ hv
   obtain ⟨x,zV⟩ : ∃ x,x=l[k]:=⟨_,rfl⟩
   rw [← zV] at c0 c1 hy hn
   clear zV hcell yn
   cases hv:f x
   ·have HE:Hid (bv f (k+1) (l.drop (k+1))=bv f 0 l):=by rw [← hn hv]; exact HR.out
    have Ac:=fun p=>HC.out x p
    rw [hv] at Ac
    clear hy hn hv
    go_wp2_with fail
    refine (aC nR (Ac _)).mono ?_
    rintro e w1 ⟨rfl,q1,rfl⟩
    go_wp2
    go_roundw
    case rel=>exact ⟨k+1,oM,by go_num,⟨q1,rfl⟩,HE⟩
    case measure=>simp [intOf]; omega
   ·have HE:Hid ((k:Int)=bv f 0 l):=by rw [← hy hv]; exact HR.out
    have Ac:=fun p=>HC.out x p
    rw [hv] at Ac
    clear hy hn hv
    go_wp2_with fail
    refine (aC nR (Ac _)).mono ?_
    rintro e w1 ⟨rfl,q1,rfl⟩
    go_wp2
    go_ret
    exact ⟨by rw [← HE.out]; rfl,q1.below⟩
  ·have HE:Hid (-1=bv f 0 l):=by
    have h1:=HR.out; rw [List.drop_eq_nil_of_le oM] at h1; exact h1
   clear yn
   go_wp2
   go_ret
   exact ⟨by rw [← HE.out]; rfl,q.below⟩
theorem rR (t:aq) (gk:Nat) (kd:Int) (w:World) (hk:gk < w.heap.size) (hc:w.cell? ⟨gk,0,none⟩=some (O U kd)) :
  Calls wH 165 #[t.val,.pointer (some ⟨gk,0,none⟩)] w fun e w'=>e=.returned (.bool (decide (t.k=kd)))∧Below w.heap.size w w':=by
 have hc' : (w.alloc (.cells #[O U t.k,O U t.c] 104)).cell? ⟨gk,0,none⟩=some (O U kd):=(bZ w _).cell hk |>.trans hc
 by_cases hz:t.k=kd
 all_goals
  obtain ⟨v,hv⟩ : ∃ v,(t.k == kd)=v:=⟨_,rfl⟩
  have HV:Hid (decide (t.k=kd)=v):=by rw [← hv]; unfold Hid; rw [Bool.eq_iff_iff]; simp
  clear hz
  go_enter Tryz.func165,Tryz.ntmps165
  go_wp2
  go_ret
  exact ⟨by rw [HV.out]; rfl,jB.alloc nR _⟩
theorem bp (x:aO) (g:Nat) (kd:Int) (w:World) (h:cw w w.heap.size g x) :
  Calls wH 116 #[.pointer (some ⟨g,0,none⟩),O U kd] w fun e w'=>e=.returned (O U (ay x.t kd))∧Below w.heap.size w w':=by
 have CJ:∀ (fn:Fn) (first cap:Array Value) (w:World),(Instr.makeFunc fn first cap).run wH w=.ok (.func fn first cap) w:=fun _ _ _ _=>rfl
 have b1:=bZ w (.cells #[O U kd] 3)
 have hL:=ai.new w 3 #[O U kd]
 have hA:=h.then (B':=(w.alloc (.cells #[O U kd] 3)).heap.size) b1 b1.size
 have c0:(w.alloc (.cells #[O U kd] 3)).cell? ⟨g,0,none⟩=some (F x.TA x.t.length x.tc):=hA.s.c0 (ap.start _ _)
 have HI:Hid (bv (fun t:aq=>decide (t.k=kd)) 0 x.t=ay x.t kd):=rfl
 go_enter Tryz.func116,Tryz.ntmps116
 go_wp2_with fail
 clear c0
 generalize w.alloc (.cells #[O U kd] 3)=W at b1 hL hA ⊢
 refine (pL (fun t:aq=>decide (t.k=kd)) 165 #[.pointer (some ⟨w.heap.size,0,none⟩)] Tryz.call165 _ _ _ _ (fun t p=>rR t w.heap.size kd _ (jL hL.lt p.size) ((p.cell hL.lt).trans (hL.cell 0))) hA.r.ts).mono ?_
 rintro e w1 ⟨rfl,wN⟩
 rw [HI.out]
 go_wp2
 go_ret
 exact ⟨rfl,av b1 wN⟩
theorem bQ (n:Int) (w:World):Calls wH 117 #[O U n] w fun e w'=>e=.returned (.bool (cg n 1 999))∧w=w':=by
 go_enter Tryz.func117,Tryz.ntmps117
 go_wp2_with fail
 refine (aN n 1 999 _).mono ?_
 rintro e w' ⟨rfl,rfl⟩
 go_wp2
 go_ret
 exact ⟨rfl,rfl⟩
theorem jt (x:aO) (g:Nat) (w:World) (h:cw w w.heap.size g x) (tl:x.t.length≤8) (ht:∀ i (hi:i < x.t.length),x.t[i].ok=true) :
  Calls wH 119 #[.pointer (some ⟨g,0,none⟩)] w fun e w'=>e=.returned (O U (cJ x.t))∧Below w.heap.size w w':=by
 have HT:=jZ ht; clear ht
 have HF:Hid (gz 0 (x.t.drop 0)=cJ x.t):=rfl
 have s0:w.cell? ⟨g,0,none⟩=some (F x.TA x.t.length x.tc):=h.s.c0 (ap.start _ _)
 have Cu:=h.r.ts.el
 go_enter Tryz.func119,Tryz.ntmps119
 go_wp2
 clear s0
 go_loopw [3,11] (fun s i wr=>∃ (k:Nat) (t:Int),k≤x.t.length∧i=O U k∧s=O U t∧(0≤t∧t≤9999 * (k:Int))∧(∃ q:ap w.heap.size w,wr=q.val)∧Hid (gz t (x.t.drop k)=cJ x.t)) (fun _ i _=>x.t.length - (intOf i).toNat)
 case atStart=>exact ⟨0,0,Nat.zero_le _,rfl,rfl,oM,⟨ap.start _ _,rfl⟩,HF⟩
 case round =>
  obtain ⟨k,t,hk,rfl,rfl,⟨t0,t1⟩,⟨q,rfl⟩,HR⟩:=hrel
  by_cases wQ:k < x.t.length
  ·obtain ⟨b,off,hA,hb,hcell⟩:=Cu oM
   obtain ⟨e0,e1⟩:=hcell k wQ
   obtain ⟨_,x1,x2⟩:=aq.bounds (HT.out k wQ)
   have HS:=jZ (tf wQ t)
   obtain ⟨r,xy⟩ : ∃ r,r=x.t[k]:=⟨_,rfl⟩
   rw [← xy] at e0 e1 HS x1 x2
   clear xy hcell Cu
   go_wp2
   go_roundw
   case rel=>exact ⟨k+1,t+r.c,oM,by go_num,rfl,oM,⟨⟨_,q.below.alloc q.size _⟩,rfl⟩,by have h1:=HR.out; rw [HS.out] at h1; exact h1⟩
   case measure=>simp [intOf]; omega
  ·have HE:Hid (t=cJ x.t):=by
    have h1:=HR.out; rw [List.drop_eq_nil_of_le oM] at h1; exact h1
   clear Cu
   go_wp2
   go_ret
   exact ⟨by rw [← HE.out]; rfl,q.below⟩
theorem fC (f:ae→Bool) (kf:Nat) (lb:Array Value) (eg:∀ args w,(callFunc kf args).run wH w=.ok (.enter kf args) w) (x:aO) (g:Nat) (w:World)
  (hf:∀ (o:ae) (p:ap w.heap.size w),Calls wH kf (#[o.val]++lb) p.val fun e w'=>e=.returned (.bool (f o))∧Below p.val.heap.size p.val w')
  (h:cw w w.heap.size g x) (ol:x.o.length≤8) (ho:∀ i (hi:i < x.o.length),x.o[i].ok x.t=true) :
  Calls wH 120 #[.pointer (some ⟨g,0,none⟩),.func (.func kf) #[] lb] w fun e w'=>e=.returned (O U (aW f x.o))∧Below w.heap.size w w':=by
 have HO:=jZ ho; clear ho
 have HC:=jZ hf; clear hf
 have HF:Hid (bJ f 0 (x.o.drop 0)=aW f x.o):=rfl
 have s1:w.cell? ⟨g,1,none⟩=some (F x.OA x.o.length x.oc):=h.s.c1 (ap.start _ _)
 have xS:=h.r.os.el
 generalize x.OA=OA at s1 xS
 go_enter Tryz.func120,Tryz.ntmps120
 go_wp2
 clear s1
 go_loopw [5,13] (fun s i wr=>∃ (k:Nat) (t:Int),k≤x.o.length∧i=O U k∧s=O U t∧(0≤t∧t≤9999 * (k:Int))∧(∃ q:ap w.heap.size w,wr=q.val)∧Hid (bJ f t (x.o.drop k)=aW f x.o)) (fun _ i _=>x.o.length - (intOf i).toNat)
 case atStart=>exact ⟨0,0,Nat.zero_le _,rfl,rfl,oM,⟨ap.start _ _,rfl⟩,HF⟩
 case round =>
  obtain ⟨k,t,hk,rfl,rfl,⟨t0,t1⟩,⟨q,rfl⟩,HR⟩:=hrel
  by_cases wQ:k < x.o.length
  ·obtain ⟨b,off,rfl,hb,hcell⟩:=xS oM
   obtain ⟨e0,e1,e2⟩:=hcell k wQ
   obtain ⟨_,_,x1,x2⟩:=ae.bounds (HO.out k wQ)
   have HS:=jZ (lv (f:=f) wQ t)
   obtain ⟨r,xy⟩ : ∃ r,r=x.o[k]:=⟨_,rfl⟩
   rw [← xy] at e0 e1 e2 HS x1 x2
   clear xy hcell xS
   have hbV:=q.below.alloc q.size (.cells #[O U r.k,O U r.p,O U r.c] 147)
   have hlV:=ai.new q.val 147 #[O U r.k,O U r.p,O U r.c]
   have Ac:=fun p=>HC.out r p
   cases hv:f r
   all_goals
    rw [hv] at Ac HS
    clear hv
    go_wp2_with fail
    generalize q.val.alloc (.cells #[O U r.k,O U r.p,O U r.c] 147)=V at hbV hlV ⊢
    refine (Ac ⟨V,hbV⟩).mono ?_
    rintro e w1 ⟨rfl,wN⟩
    have d2:=(hlV.below wN hlV.lt).cell 2
    simp only [gz0,gz1] at d2
    go_wp2
   ·go_roundw
    case rel=>exact ⟨k+1,t,oM,by go_num,rfl,oM,⟨⟨w1,hbV.trans (wN.mono hbV.size)⟩,rfl⟩,by have h1:=HR.out; rw [HS.out] at h1; exact h1⟩
    case measure=>simp [intOf]; omega
   ·go_roundw
    case rel=>exact ⟨k+1,t+r.c,oM,by go_num,rfl,oM,⟨⟨w1,hbV.trans (wN.mono hbV.size)⟩,rfl⟩,by have h1:=HR.out; rw [HS.out] at h1; exact h1⟩
    case measure=>simp [intOf]; omega
  ·have HE:Hid (t=aW f x.o):=by
    have h1:=HR.out; rw [List.drop_eq_nil_of_le oM] at h1; exact h1
   clear xS
   go_wp2
   go_ret
   exact ⟨by rw [← HE.out]; rfl,q.below⟩
theorem rS (o:ae) (w:World):Calls wH 121 #[o.val] w fun e w'=>e=.returned (.bool true)∧Below w.heap.size w w':=by
 go_enter Tryz.func121,Tryz.ntmps121
 go_wp2
 go_ret
 exact ⟨rfl,jB.alloc nR _⟩
def iF (a b:Int):Int:=if a < b then -1 else if b < a then 1 else 0
theorem pf (a:Int) (w:World):Calls wH 192 #[O U a] w fun e w'=>e=.returned (.bool false)∧w=w':=by
 have hv:(a != a)=false:=sP
 go_enter Tryz.func192,Tryz.ntmps192
 go_wp2
 go_ret
 exact ⟨rfl,rfl⟩
theorem kb (a b:Int) (w:World):Calls wH 167 #[O U a,O U b] w fun e w'=>e=.returned (O U (iF a b))∧w=w':=by
 have ha:=fun W=>pf a W
 have hb:=fun W=>pf b W
 by_cases h1:a < b
 ·have HE:Hid (iF a b = -1):=by unfold Hid iF; rw [if_pos h1]
  go_enter Tryz.func167,Tryz.ntmps167
  go_wp2_with fail
  refine (ha _).mono ?_
  rintro e w' ⟨rfl,rfl⟩
  go_wp2_with fail
  refine (hb _).mono ?_
  rintro e w' ⟨rfl,rfl⟩
  go_wp2
  go_ret
  exact ⟨by rw [HE.out]; rfl,rfl⟩
 ·by_cases h2:b < a
  ·have HE:Hid (iF a b=1):=by unfold Hid iF; rw [if_neg h1,if_pos h2]
   go_enter Tryz.func167,Tryz.ntmps167
   go_wp2_with fail
   refine (ha _).mono ?_
   rintro e w' ⟨rfl,rfl⟩
   go_wp2_with fail
   refine (hb _).mono ?_
   rintro e w' ⟨rfl,rfl⟩
   go_wp2
   go_ret
   exact ⟨by rw [HE.out]; rfl,rfl⟩
  ·have HE:Hid (iF a b=0):=by unfold Hid iF; rw [if_neg h1,if_neg h2]
   go_enter Tryz.func167,Tryz.ntmps167
   go_wp2_with fail
   refine (ha _).mono ?_
   rintro e w' ⟨rfl,rfl⟩
   go_wp2_with fail
   refine (hb _).mono ?_
   rintro e w' ⟨rfl,rfl⟩
   go_wp2
   go_ret
   exact ⟨by rw [HE.out]; rfl,rfl⟩
def vH (a b:Int):Int:=if a=0 then b else a
theorem vI (a b:Int) (g c:Nat) (w:World) (h0:w.cell? ⟨g,0,none⟩=some (O U a)) (h1:w.cell? ⟨g,1,none⟩=some (O U b)) :
  Calls wH 166 #[F (some ⟨g,0,none⟩) 2 c] w fun e w'=>e=.returned (O U (vH a b))∧w=w':=by
 by_cases ha:a=0
 ·have va:(a != 0)=false:=by simp [ha]
  have HE:Hid (vH a b=b):=by unfold Hid vH; rw [if_pos ha]
  clear ha
  by_cases hb:b=0
  ·have vb:(b != 0)=false:=by simp [hb]
   have HB:=jZ hb; clear hb
   go_enter Tryz.func166,Tryz.ntmps166
   go_wp2
   refine wp_loop_rounds 3 ?_
   rw [rounds_succ]
   go_wp2
   rw [rounds_succ]
   go_wp2
   rw [rounds_succ]
   go_wp2
   go_ret
   exact ⟨by rw [HE.out,HB.out]; rfl,rfl⟩
  ·have vb:(b != 0)=true:=by simp [hb]
   clear hb
   go_enter Tryz.func166,Tryz.ntmps166
   go_wp2
   refine wp_loop_rounds 2 ?_
   rw [rounds_succ]
   go_wp2
   rw [rounds_succ]
   go_wp2
   go_ret
   exact ⟨by rw [HE.out]; rfl,rfl⟩
 ·have va:(a != 0)=true:=by simp [ha]
  have HE:Hid (vH a b=a):=by unfold Hid vH; rw [if_neg ha]
  clear ha
  go_enter Tryz.func166,Tryz.ntmps166
  go_wp2
  refine wp_loop_rounds 1 ?_
  rw [rounds_succ]
  go_wp2
  go_ret
  exact ⟨by rw [HE.out]; rfl,rfl⟩
def ju (a b:ae):Int:=vH (iF a.k b.k) (iF a.p b.p)
theorem mO (a b:ae):decide (0≤ju a b) = !(before a b):=by
 unfold ju vH iF before
 by_cases h1:a.k < b.k
 ·simp [h1]
 ·by_cases h2:b.k < a.k
  ·have h3:a.k ≠ b.k:=oM
   simp [h1,h2,h3]
  ·have h3:a.k=b.k:=oM
   by_cases h4:a.p < b.p
   ·simp [h3,h4]
   ·by_cases h5:b.p < a.p
    ·simp [h3,h4,h5]
    ·simp [h3,h4,h5]
theorem ik (a b:ae) (w:World):Calls wH 118 #[a.val,b.val] w fun e w'=>e=.returned (O U (ju a b))∧Below w.heap.size w w':=by
 have b1:=bZ w (.cells #[O U a.k,O U a.p,O U a.c] 147)
 have b2:=b1.alloc b1.size (.cells #[O U b.k,O U b.p,O U b.c] 147)
 have L1:=(ai.new w 147 #[O U a.k,O U a.p,O U a.c]).alloc (.cells #[O U b.k,O U b.p,O U b.c] 147)
 have L2:=ai.new1 w (.cells #[O U a.k,O U a.p,O U a.c] 147) 147 #[O U b.k,O U b.p,O U b.c]
 clear b1
 obtain ⟨X,hX⟩ : ∃ X,iF a.k b.k=X:=⟨_,rfl⟩
 obtain ⟨Y,hY⟩ : ∃ Y,iF a.p b.p=Y:=⟨_,rfl⟩
 have HO:Hid (ju a b=vH X Y):=by rw [← hX,← hY]; rfl
 have cX:=fun W=>kb a.k b.k W
 have cY:=fun W=>kb a.p b.p W
 rw [hX] at cX
 rw [hY] at cY
 clear hX hY
 go_enter Tryz.func118,Tryz.ntmps118
 go_wp2
 generalize ((w.alloc (.cells #[O U a.k,O U a.p,O U a.c] 147)).alloc (.cells #[O U b.k,O U b.p,O U b.c] 147))=W at b2 L1 L2 ⊢
 have c0:=L1.cell 0
 have c1:=L1.cell 1
 have d0:=L2.cell 0
 have d1:=L2.cell 1
 simp only [gz0,gz1] at c0 c1 d0 d1
 have HK:∀ W',Below W.heap.size W W'→(Below W.heap.size W W'∧W'.cell? ⟨w.heap.size,0,none⟩=some (O U a.k)∧W'.cell? ⟨w.heap.size,1,none⟩=some (O U a.p)∧W'.cell? ⟨w.heap.size+1,0,none⟩=some (O U b.k)∧W'.cell? ⟨w.heap.size+1,1,none⟩=some (O U b.p)):=fun W' hb =>
  ⟨hb,(hb.cell L1.lt).trans c0,(hb.cell L1.lt).trans c1,(hb.cell L2.lt).trans d0,(hb.cell L2.lt).trans d1⟩
 have Bj:(W.alloc (.cells #[O U X,O U Y] 3)).drew.cell? ⟨W.heap.size,0,none⟩=some (O U X):=(ai.new W 3 #[O U X,O U Y]).cell 0
 have BY:(W.alloc (.cells #[O U X,O U Y] 3)).drew.cell? ⟨W.heap.size,1,none⟩=some (O U Y):=(ai.new W 3 #[O U X,O U Y]).cell 1
 go_region_held3 (fun W'=>Below W.heap.size W W'∧W'.cell? ⟨w.heap.size,0,none⟩=some (O U a.k)∧W'.cell? ⟨w.heap.size,1,none⟩=some (O U a.p)∧W'.cell? ⟨w.heap.size+1,0,none⟩=some (O U b.k)∧W'.cell? ⟨w.heap.size+1,1,none⟩=some (O U b.p)) (first | exact HK _ jB.drew | exact HK _ ((jB.drew).alloc (by first | exact Nat.le_refl _ | simp) _) | (exact HK _ (by assumption))) (first | (go_at_call 167; with_reducible refine (cX _).mono ?_; rintro e w8 ⟨rfl,rfl⟩) | (go_at_call 167; with_reducible refine (cY _).mono ?_; rintro e w8 ⟨rfl,rfl⟩) | (go_at_call 166; refine (vI X Y W.heap.size 2 (W.alloc (.cells #[O U X,O U Y] 3)).drew Bj BY).mono ?_; rintro e w9 ⟨rfl,rfl⟩))
 all_goals
  go_wp2
  go_ret
  exact ⟨by rw [HO.out]; rfl,av b2 (bZ W _).drew⟩
end Go.Proofs.YtoeoimhemojdeaaGreatDoor
