/- Lemmas. -/
import Derived.Deep.RegionHeld3
import Derived.Test.YtoeoimhemojdeaaGreatDoorFc06

set_option linter.unusedVariables false
set_option linter.unusedSimpArgs false
set_option maxHeartbeats 8000000
open Go.Value renaming int → O, slice → F, string → vw
open Go.IntKind renaming i64 → U
open Go.Proofs.Tryz renaming prog → vx

namespace Go.Proofs.YtoeoimhemojdeaaGreatDoor
open Go.RowKit
structure cm (w:World) (B g:Nat) (x:aO):Prop where
 s:na B w g x
 lt:g < B
 r:aP w B x
theorem cm.of {w:World} {g:Nat} {t:TypeId} {x:aO} (h:ah w g t x.enc) (hr:aP w w.heap.size x):cm w w.heap.size g x:=⟨na.of h,h.lt,hr⟩
theorem cm.then {w w' : World} {B g:Nat} {x:aO} (h:cm w B g x) (hb:Below B w w') {B' : Nat} (hB:B≤B'):cm w' B' g x :=
 ⟨⟨fun p=>h.s.c0 ⟨p.val,hb.trans (p.below.mono hB)⟩,fun p=>h.s.c1 ⟨p.val,hb.trans (p.below.mono hB)⟩,fun p=>h.s.c2 ⟨p.val,hb.trans (p.below.mono hB)⟩,fun p=>h.s.c3 ⟨p.val,hb.trans (p.below.mono hB)⟩,fun p=>h.s.c4 ⟨p.val,hb.trans (p.below.mono hB)⟩⟩,jL h.lt hB,(h.r.below hb).mono hB⟩
theorem cm.at {w:World} {g:Nat} {x:aO} (h:cm w w.heap.size g x) (q:ap w.heap.size w):cm q.val q.val.heap.size g x:=h.then q.below q.size
theorem oZ (f:aq→Bool) (g:Nat) (lb:Array Value) (eg:∀ args w,(callFunc g args).run vx w=.ok (.enter g args) w) (A:Option Addr) (c:Nat) (l:List aq) (w:World)
  (hf:∀ (t:aq) (p:ap w.heap.size w),Calls vx g (#[t.val]++lb) p.val fun e w'=>e=.returned (.bool (f t))∧Below p.val.heap.size p.val w') (h:fm w w.heap.size A l) :
  Calls vx 164 #[F A l.length c,.func (.func g) #[] lb] w fun e w'=>e=.returned (O U (bp f 0 l))∧Below w.heap.size w w':=by
 have hl:=h.big
 have xi:=h.el
 have HF:Hid (bp f 0 (l.drop 0)=bp f 0 l):=rfl
 have HC:=jZ hf; clear hf
 go_enter Tryz.func164,Tryz.ntmps164
 go_wp2
 go_loopw [8] (fun i wr=>∃ (k:Nat),k≤l.length∧i=O U k∧(∃ q:ap w.heap.size w,wr=q.val)∧Hid (bp f k (l.drop k)=bp f 0 l)) (fun i _=>l.length - (intOf i).toNat)
 case atStart=>exact ⟨0,Nat.zero_le _,rfl,⟨ap.start _ _,rfl⟩,HF⟩
 case round =>
  obtain ⟨k,hk,rfl,⟨q,rfl⟩,HR⟩:=hrel
  by_cases vH:k < l.length
  ·obtain ⟨b,off,rfl,hb,hcell⟩:=xi oM
   obtain ⟨c0,c1⟩:=hcell k vH
   have hy:=fun hv=>r3 (f:=f) vH hv
   have hn:=fun hv=>tJ (f:=f) vH hv
   obtain ⟨x,x9⟩ : ∃ x,x=l[k]:=⟨_,rfl⟩
   rw [← x9] at c0 c1 hy hn
   clear x9 hcell xi
   cases hv:f x
   ·have HE:Hid (bp f (k+1) (l.drop (k+1))=bp f 0 l):=by rw [← hn hv]; exact HR.out
    have yR:=fun p=>HC.out x p
    rw [hv] at yR
    clear hy hn hv
    go_wp2_with fail
    refine (aQ nR (yR _)).mono ?_
    rintro e w1 ⟨rfl,q1,rfl⟩
    go_wp2
    go_roundw
    case rel=>exact ⟨k+1,oM,by go_num,⟨q1,rfl⟩,HE⟩
    case measure=>simp [intOf]; omega
   ·have HE:Hid ((k:Int)=bp f 0 l):=by rw [← hy hv]; exact HR.out
    have yR:=fun p=>HC.out x p
    rw [hv] at yR
    clear hy hn hv
    go_wp2_with fail
    refine (aQ nR (yR _)).mono ?_
    rintro e w1 ⟨rfl,q1,rfl⟩
    go_wp2
    go_ret
    exact ⟨by rw [← HE.out]; rfl,q1.below⟩
  ·have HE:Hid (-1=bp f 0 l):=by
    have h1:=HR.out; rw [List.drop_eq_nil_of_le oM] at h1; exact h1
   clear xi
   go_wp2
   go_ret
   exact ⟨by rw [← HE.out]; rfl,q.below⟩
theorem qW (t:aq) (gk:Nat) (kd:Int) (w:World) (hk:gk < w.heap.size) (hc:w.cell? ⟨gk,0,none⟩=some (O U kd)) :
  Calls vx 165 #[t.val,.pointer (some ⟨gk,0,none⟩)] w fun e w'=>e=.returned (.bool (decide (t.k=kd)))∧Below w.heap.size w w':=by
 have hc' : (w.alloc (.cells #[O U t.k,O U t.c] 104)).cell? ⟨gk,0,none⟩=some (O U kd):=(bZ w _).cell hk |>.trans hc
 by_cases hz:t.k=kd
 all_goals
  obtain ⟨v,hv⟩ : ∃ v,(t.k == kd)=v:=⟨_,rfl⟩
  have HV:Hid (decide (t.k=kd)=v):=by rw [← hv]; unfold Hid; rw [Bool.eq_iff_iff]; simp
  clear hz
  go_enter Tryz.func165,Tryz.ntmps165
  go_wp2
  go_ret
  exact ⟨by rw [HV.out]; rfl,jB.alloc nR _⟩
theorem bh (x:aO) (g:Nat) (kd:Int) (w:World) (h:cm w w.heap.size g x) :
  Calls vx 116 #[.pointer (some ⟨g,0,none⟩),O U kd] w fun e w'=>e=.returned (O U (ax x.t kd))∧Below w.heap.size w w':=by
 have Bl:∀ (fn:Fn) (first cap:Array Value) (w:World),(Instr.makeFunc fn first cap).run vx w=.ok (.func fn first cap) w:=fun _ _ _ _=>rfl
 have b1:=bZ w (.cells #[O U kd] 3)
 have hL:=ah.new w 3 #[O U kd]
 have hA:=h.then (B':=(w.alloc (.cells #[O U kd] 3)).heap.size) b1 b1.size
 have c0:(w.alloc (.cells #[O U kd] 3)).cell? ⟨g,0,none⟩=some (F x.TA x.t.length x.tc):=hA.s.c0 (ap.start _ _)
 have HI:Hid (bp (fun t:aq=>decide (t.k=kd)) 0 x.t=ax x.t kd):=rfl
 go_enter Tryz.func116,Tryz.ntmps116
 go_wp2_with fail
 clear c0
 generalize w.alloc (.cells #[O U kd] 3)=W at b1 hL hA ⊢
 refine (oZ (fun t:aq=>decide (t.k=kd)) 165 #[.pointer (some ⟨w.heap.size,0,none⟩)] Tryz.call165 _ _ _ _ (fun t p=>qW t w.heap.size kd _ (jL hL.lt p.size) ((p.cell hL.lt).trans (hL.cell 0))) hA.r.ts).mono ?_
 rintro e w1 ⟨rfl,vD⟩
 rw [HI.out]
 go_wp2
 go_ret
 exact ⟨rfl,av b1 vD⟩
theorem bM (n:Int) (w:World):Calls vx 117 #[O U n] w fun e w'=>e=.returned (.bool (cc n 1 999))∧w=w':=by
 go_enter Tryz.func117,Tryz.ntmps117
 go_wp2_with fail
 refine (aM n 1 999 _).mono ?_
 rintro e w' ⟨rfl,rfl⟩
 go_wp2
 go_ret
 exact ⟨rfl,rfl⟩
theorem jf (x:aO) (g:Nat) (w:World) (h:cm w w.heap.size g x) (tl:x.t.length≤8) (ht:∀ i (hi:i < x.t.length),x.t[i].ok=true) :
  Calls vx 119 #[.pointer (some ⟨g,0,none⟩)] w fun e w'=>e=.returned (O U (cr x.t))∧Below w.heap.size w w':=by
 have HT:=jZ ht; clear ht
 have HF:Hid (gh 0 (x.t.drop 0)=cr x.t):=rfl
 have s0:w.cell? ⟨g,0,none⟩=some (F x.TA x.t.length x.tc):=h.s.c0 (ap.start _ _)
 have AU:=h.r.ts.el
 go_enter Tryz.func119,Tryz.ntmps119
 go_wp2
 clear s0
 go_loopw [3,11] (fun s i wr=>∃ (k:Nat) (t:Int),k≤x.t.length∧i=O U k∧s=O U t∧(0≤t∧t≤9999 * (k:Int))∧(∃ q:ap w.heap.size w,wr=q.val)∧Hid (gh t (x.t.drop k)=cr x.t)) (fun _ i _=>x.t.length - (intOf i).toNat)
 case atStart=>exact ⟨0,0,Nat.zero_le _,rfl,rfl,oM,⟨ap.start _ _,rfl⟩,HF⟩
 case round =>
  obtain ⟨k,t,hk,rfl,rfl,⟨t0,t1⟩,⟨q,rfl⟩,HR⟩:=hrel
  by_cases vH:k < x.t.length
  ·obtain ⟨b,off,hA,hb,hcell⟩:=AU oM
   obtain ⟨e0,e1⟩:=hcell k vH
   obtain ⟨_,x1,x2⟩:=aq.bounds (HT.out k vH)
   have HS:=jZ (r4 vH t)
   obtain ⟨r,wl⟩ : ∃ r,r=x.t[k]:=⟨_,rfl⟩
   rw [← wl] at e0 e1 HS x1 x2
   clear wl hcell AU
   go_wp2
   go_roundw
   case rel=>exact ⟨k+1,t+r.c,oM,by go_num,rfl,oM,⟨⟨_,q.below.alloc q.size _⟩,rfl⟩,by have h1:=HR.out; rw [HS.out] at h1; exact h1⟩
   case measure=>simp [intOf]; omega
  ·have HE:Hid (t=cr x.t):=by
    have h1:=HR.out; rw [List.drop_eq_nil_of_le oM] at h1; exact h1
   clear AU
   go_wp2
   go_ret
   exact ⟨by rw [← HE.out]; rfl,q.below⟩
theorem fp (f:ae→Bool) (kf:Nat) (lb:Array Value) (eg:∀ args w,(callFunc kf args).run vx w=.ok (.enter kf args) w) (x:aO) (g:Nat) (w:World)
  (hf:∀ (o:ae) (p:ap w.heap.size w),Calls vx kf (#[o.val]++lb) p.val fun e w'=>e=.returned (.bool (f o))∧Below p.val.heap.size p.val w')
  (h:cm w w.heap.size g x) (ol:x.o.length≤8) (ho:∀ i (hi:i < x.o.length),x.o[i].ok x.t=true) :
  Calls vx 120 #[.pointer (some ⟨g,0,none⟩),.func (.func kf) #[] lb] w fun e w'=>e=.returned (O U (aW f x.o))∧Below w.heap.size w w':=by
 have HO:=jZ ho; clear ho
 have HC:=jZ hf; clear hf
 have HF:Hid (bG f 0 (x.o.drop 0)=aW f x.o):=rfl
 have s1:w.cell? ⟨g,1,none⟩=some (F x.OA x.o.length x.oc):=h.s.c1 (ap.start _ _)
 have wN:=h.r.os.el
 generalize x.OA=OA at s1 wN
 go_enter Tryz.func120,Tryz.ntmps120
 go_wp2
 clear s1
 go_loopw [5,13] (fun s i wr=>∃ (k:Nat) (t:Int),k≤x.o.length∧i=O U k∧s=O U t∧(0≤t∧t≤9999 * (k:Int))∧(∃ q:ap w.heap.size w,wr=q.val)∧Hid (bG f t (x.o.drop k)=aW f x.o)) (fun _ i _=>x.o.length - (intOf i).toNat)
 case atStart=>exact ⟨0,0,Nat.zero_le _,rfl,rfl,oM,⟨ap.start _ _,rfl⟩,HF⟩
 case round =>
  obtain ⟨k,t,hk,rfl,rfl,⟨t0,t1⟩,⟨q,rfl⟩,HR⟩:=hrel
  by_cases vH:k < x.o.length
  ·obtain ⟨b,off,rfl,hb,hcell⟩:=wN oM
   obtain ⟨e0,e1,e2⟩:=hcell k vH
   obtain ⟨_,_,x1,x2⟩:=ae.bounds (HO.out k vH)
   have HS:=jZ (kR (f:=f) vH t)
   obtain ⟨r,wl⟩ : ∃ r,r=x.o[k]:=⟨_,rfl⟩
   rw [← wl] at e0 e1 e2 HS x1 x2
   clear wl hcell wN
   have hbV:=q.below.alloc q.size (.cells #[O U r.k,O U r.p,O U r.c] 147)
   have hlV:=ah.new q.val 147 #[O U r.k,O U r.p,O U r.c]
   have yR:=fun p=>HC.out r p
   cases hv:f r
   all_goals
    rw [hv] at yR HS
    clear hv
    go_wp2_with fail
    generalize q.val.alloc (.cells #[O U r.k,O U r.p,O U r.c] 147)=V at hbV hlV ⊢
    refine (yR ⟨V,hbV⟩).mono ?_
    rintro e w1 ⟨rfl,vD⟩
    have d2:=(hlV.below vD hlV.lt).cell 2
    simp only [gz0,gz1] at d2
    go_wp2
   ·go_roundw
    case rel=>exact ⟨k+1,t,oM,by go_num,rfl,oM,⟨⟨w1,hbV.trans (vD.mono hbV.size)⟩,rfl⟩,by have h1:=HR.out; rw [HS.out] at h1; exact h1⟩
    case measure=>simp [intOf]; omega
   ·go_roundw
    case rel=>exact ⟨k+1,t+r.c,oM,by go_num,rfl,oM,⟨⟨w1,hbV.trans (vD.mono hbV.size)⟩,rfl⟩,by have h1:=HR.out; rw [HS.out] at h1; exact h1⟩
    case measure=>simp [intOf]; omega
  ·have HE:Hid (t=aW f x.o):=by
    have h1:=HR.out; rw [List.drop_eq_nil_of_le oM] at h1; exact h1
   clear wN
   go_wp2
   go_ret
   exact ⟨by rw [← HE.out]; rfl,q.below⟩
theorem qX (o:ae) (w:World):Calls vx 121 #[o.val] w fun e w'=>e=.returned (.bool true)∧Below w.heap.size w w':=by
 go_enter Tryz.func121,Tryz.ntmps121
 go_wp2
 go_ret
 exact ⟨rfl,jB.alloc nR _⟩
def iu (a b:Int):Int:=if a < b then -1 else if b < a then 1 else 0
theorem ox (a:Int) (w:World):Calls vx 192 #[O U a] w fun e w'=>e=.returned (.bool false)∧w=w':=by
 have hv:(a != a)=false:=sP
 go_enter Tryz.func192,Tryz.ntmps192
 go_wp2
 go_ret
 exact ⟨rfl,rfl⟩
theorem jH (a b:Int) (w:World):Calls vx 167 #[O U a,O U b] w fun e w'=>e=.returned (O U (iu a b))∧w=w':=by
 have ha:=fun W=>ox a W
 have hb:=fun W=>ox b W
 by_cases h1:a < b
 ·have HE:Hid (iu a b = -1):=by unfold Hid iu; rw [if_pos h1]
  go_enter Tryz.func167,Tryz.ntmps167
  go_wp2_with fail
  refine (ha _).mono ?_
  rintro e w' ⟨rfl,rfl⟩
  go_wp2_with fail
  refine (hb _).mono ?_
  rintro e w' ⟨rfl,rfl⟩
  go_wp2
  go_ret
  exact ⟨by rw [HE.out]; rfl,rfl⟩
 ·by_cases h2:b < a
  ·have HE:Hid (iu a b=1):=by unfold Hid iu; rw [if_neg h1,if_pos h2]
   go_enter Tryz.func167,Tryz.ntmps167
   go_wp2_with fail
   refine (ha _).mono ?_
   rintro e w' ⟨rfl,rfl⟩
   go_wp2_with fail
   refine (hb _).mono ?_
   rintro e w' ⟨rfl,rfl⟩
   go_wp2
   go_ret
   exact ⟨by rw [HE.out]; rfl,rfl⟩
  ·have HE:Hid (iu a b=0):=by unfold Hid iu; rw [if_neg h1,if_neg h2]
   go_enter Tryz.func167,Tryz.ntmps167
   go_wp2_with fail
   refine (ha _).mono ?_
   rintro e w' ⟨rfl,rfl⟩
   go_wp2_with fail
   refine (hb _).mono ?_
   rintro e w' ⟨rfl,rfl⟩
   go_wp2
   go_ret
   exact ⟨by rw [HE.out]; rfl,rfl⟩
def uC (a b:Int):Int:=if a=0 then b else a
theorem uD (a b:Int) (g c:Nat) (w:World) (h0:w.cell? ⟨g,0,none⟩=some (O U a)) (h1:w.cell? ⟨g,1,none⟩=some (O U b)) :
  Calls vx 166 #[F (some ⟨g,0,none⟩) 2 c] w fun e w'=>e=.returned (O U (uC a b))∧w=w':=by
 by_cases ha:a=0
 ·have va:(a != 0)=false:=by simp [ha]
  have HE:Hid (uC a b=b):=by unfold Hid uC; rw [if_pos ha]
  clear ha
  by_cases hb:b=0
  ·have vb:(b != 0)=false:=by simp [hb]
   have HB:=jZ hb; clear hb
   go_enter Tryz.func166,Tryz.ntmps166
   go_wp2
   refine wp_loop_rounds 3 ?_
   rw [rounds_succ]
   go_wp2
   rw [rounds_succ]
   go_wp2
   rw [rounds_succ]
   go_wp2
   go_ret
   exact ⟨by rw [HE.out,HB.out]; rfl,rfl⟩
  ·have vb:(b != 0)=true:=by simp [hb]
   clear hb
   go_enter Tryz.func166,Tryz.ntmps166
   go_wp2
   refine wp_loop_rounds 2 ?_
   rw [rounds_succ]
   go_wp2
   rw [rounds_succ]
   go_wp2
   go_ret
   exact ⟨by rw [HE.out]; rfl,rfl⟩
 ·have va:(a != 0)=true:=by simp [ha]
  have HE:Hid (uC a b=a):=by unfold Hid uC; rw [if_neg ha]
  clear ha
  go_enter Tryz.func166,Tryz.ntmps166
  go_wp2
  refine wp_loop_rounds 1 ?_
  rw [rounds_succ]
  go_wp2
  go_ret
  exact ⟨by rw [HE.out]; rfl,rfl⟩
def jg (a b:ae):Int:=uC (iu a.k b.k) (iu a.p b.p)
theorem mn (a b:ae):decide (0≤jg a b) = !(before a b):=by
 unfold jg uC iu before
 by_cases h1:a.k < b.k
 ·simp [h1]
 ·by_cases h2:b.k < a.k
  ·have h3:a.k ≠ b.k:=oM
   simp [h1,h2,h3]
  ·have h3:a.k=b.k:=oM
   by_cases h4:a.p < b.p
   ·simp [h3,h4]
   ·by_cases h5:b.p < a.p
    ·simp [h3,h4,h5]
    ·simp [h3,h4,h5]
theorem hH (a b:ae) (w:World):Calls vx 118 #[a.val,b.val] w fun e w'=>e=.returned (O U (jg a b))∧Below w.heap.size w w':=by
 have b1:=bZ w (.cells #[O U a.k,O U a.p,O U a.c] 147)
 have b2:=b1.alloc b1.size (.cells #[O U b.k,O U b.p,O U b.c] 147)
 have L1:=(ah.new w 147 #[O U a.k,O U a.p,O U a.c]).alloc (.cells #[O U b.k,O U b.p,O U b.c] 147)
 have L2:=ah.new1 w (.cells #[O U a.k,O U a.p,O U a.c] 147) 147 #[O U b.k,O U b.p,O U b.c]
 clear b1
 obtain ⟨X,hX⟩ : ∃ X,iu a.k b.k=X:=⟨_,rfl⟩
 obtain ⟨Y,hY⟩ : ∃ Y,iu a.p b.p=Y:=⟨_,rfl⟩
 have HO:Hid (jg a b=uC X Y):=by rw [← hX,← hY]; rfl
 have cX:=fun W=>jH a.k b.k W
 have cY:=fun W=>jH a.p b.p W
 rw [hX] at cX
 rw [hY] at cY
 clear hX hY
 go_enter Tryz.func118,Tryz.ntmps118
 go_wp2
 generalize ((w.alloc (.cells #[O U a.k,O U a.p,O U a.c] 147)).alloc (.cells #[O U b.k,O U b.p,O U b.c] 147))=W at b2 L1 L2 ⊢
 have c0:=L1.cell 0
 have c1:=L1.cell 1
 have d0:=L2.cell 0
 have d1:=L2.cell 1
 simp only [gz0,gz1] at c0 c1 d0 d1
 have HK:∀ W',Below W.heap.size W W'→(Below W.heap.size W W'∧W'.cell? ⟨w.heap.size,0,none⟩=some (O U a.k)∧W'.cell? ⟨w.heap.size,1,none⟩=some (O U a.p)∧W'.cell? ⟨w.heap.size+1,0,none⟩=some (O U b.k)∧W'.cell? ⟨w.heap.size+1,1,none⟩=some (O U b.p)):=fun W' hb =>
  ⟨hb,(hb.cell L1.lt).trans c0,(hb.cell L1.lt).trans c1,(hb.cell L2.lt).trans d0,(hb.cell L2.lt).trans d1⟩
 have Ci:(W.alloc (.cells #[O U X,O U Y] 3)).drew.cell? ⟨W.heap.size,0,none⟩=some (O U X):=(ah.new W 3 #[O U X,O U Y]).cell 0
 have AB:(W.alloc (.cells #[O U X,O U Y] 3)).drew.cell? ⟨W.heap.size,1,none⟩=some (O U Y):=(ah.new W 3 #[O U X,O U Y]).cell 1
 go_region_held3 (fun W'=>Below W.heap.size W W'∧W'.cell? ⟨w.heap.size,0,none⟩=some (O U a.k)∧W'.cell? ⟨w.heap.size,1,none⟩=some (O U a.p)∧W'.cell? ⟨w.heap.size+1,0,none⟩=some (O U b.k)∧W'.cell? ⟨w.heap.size+1,1,none⟩=some (O U b.p)) (first | exact HK _ jB.drew | exact HK _ ((jB.drew).alloc (by first | exact Nat.le_refl _ | simp) _) | (exact HK _ (by assumption))) (first | (go_at_call 167; with_reducible refine (cX _).mono ?_; rintro e w8 ⟨rfl,rfl⟩) | (go_at_call 167; with_reducible refine (cY _).mono ?_; rintro e w8 ⟨rfl,rfl⟩) | (go_at_call 166; refine (uD X Y W.heap.size 2 (W.alloc (.cells #[O U X,O U Y] 3)).drew Ci AB).mono ?_; rintro e w9 ⟨rfl,rfl⟩))
 all_goals
  go_wp2
  go_ret
  exact ⟨by rw [HO.out]; rfl,av b2 (bZ W _).drew⟩
end Go.Proofs.YtoeoimhemojdeaaGreatDoor
