/- Lemmas. -/
import Derived.Test.YtoeoimhemojdeaaGreatDoorFc07

set_option linter.unusedVariables false
set_option linter.unusedSimpArgs false
set_option maxHeartbeats 8000000
open Go.Value renaming int → O, slice → F, string → vw
open Go.IntKind renaming i64 → U
open Go.Proofs.Tryz renaming prog → vx

namespace Go.Proofs.YtoeoimhemojdeaaGreatDoor
open Go.RowKit
set_option maxRecDepth 100000 in
theorem lH (x:aO) (g:Nat) (w:World) (h:cm w w.heap.size g x) (yS:(fb x && iJ x)=false) :
  Calls vx 67 #[.pointer (some ⟨g,0,none⟩)] w fun e w'=>e=.returned (.bool (an x))∧Below w.heap.size w w':=by
 have s0:w.cell? ⟨g,0,none⟩=some (F x.TA x.t.length x.tc):=h.s.c0 (ap.start _ _)
 have s1:w.cell? ⟨g,1,none⟩=some (F x.OA x.o.length x.oc):=h.s.c1 (ap.start _ _)
 have s2:w.cell? ⟨g,2,none⟩=some (O U x.gt):=h.s.c2 (ap.start _ _)
 have s3:w.cell? ⟨g,3,none⟩=some (O U x.sd):=h.s.c3 (ap.start _ _)
 have s4:w.cell? ⟨g,4,none⟩=some (O U x.ms):=h.s.c4 (ap.start _ _)
 have hl:=h.r.ts.big
 have hm:=h.r.os.big
 have c3:=fun W=>aM x.gt 0 99999 W
 have c4:=fun W=>aM x.sd 0 99999 W
 have c5:=fun W=>aM x.ms 0 99999 W
 have JI:=jZ yS; clear yS
 have HG:Hid (an x=(fb x && (cc x.gt 0 99999 && cc x.sd 0 99999 && cc x.ms 0 99999) && fa x.t && eT x.t x.o && kS x)):=rfl
 by_cases hz:x.t.length≤8∧x.o.length≤8
 ·obtain ⟨tl,ol⟩:=hz
  have HZ:Hid (fb x=true):=by unfold Hid fb; rw [jD tl,jD ol]; rfl
  obtain ⟨v3,yl⟩ : ∃ v,cc x.gt 0 99999=v:=⟨_,rfl⟩
  obtain ⟨v4,zp⟩ : ∃ v,cc x.sd 0 99999=v:=⟨_,rfl⟩
  obtain ⟨v5,yM⟩ : ∃ v,cc x.ms 0 99999=v:=⟨_,rfl⟩
  rw [yl] at c3
  rw [zp] at c4
  rw [yM] at c5
  rw [yl,zp,yM] at HG
  have ya:=jZ yl; clear yl
  have Bk:=jZ zp; clear zp
  have GJ:=jZ yM; clear yM
  by_cases xJ:(v3 && v4 && v5)=true
  ·exfalso
   have hn:iJ x=true:=by unfold iJ; rw [ya.out,Bk.out,GJ.out]; exact xJ
   have yS:=JI.out
   rw [HZ.out,hn] at yS; cases yS
  ·have Ea:Hid (an x=false):=by
    unfold Hid; rw [HG.out,HZ.out]
    cases v3 <;> cases v4 <;> cases v5 <;> first | rfl | exact absurd rfl xJ
   cases v3
   all_goals (try cases v4)
   all_goals (try cases v5)
   all_goals first
    | exact absurd rfl xJ
    | skip
   all_goals
    clear xJ
    go_enter Tryz.func67,Tryz.ntmps67
    go_wp2_with fail
    refine (c3 _).mono ?_
    rintro e w3 ⟨rfl,rfl⟩
    go_wp2_with (first | (go_at_call 75; with_reducible refine (c4 _).mono ?_; rintro e w4 ⟨rfl,rfl⟩) | (go_at_call 75; with_reducible refine (c5 _).mono ?_; rintro e w4 ⟨rfl,rfl⟩))
    go_ret
    exact ⟨by rw [Ea.out]; rfl,Below.refl _ _⟩
 ·have Ea:Hid (an x=false):=by
   unfold Hid; rw [HG.out]
   have:fb x=false:=by
    unfold fb
    by_cases h1:x.t.length≤8
    ·rw [jE (show ¬ x.o.length≤8 from fun h2=>hz ⟨h1,h2⟩),Bool.and_false]
    ·rw [jE h1,Bool.false_and]
   rw [this]; rfl
  by_cases h1:x.t.length≤8
  ·have h2 : ¬ x.o.length≤8:=fun h2=>hz ⟨h1,h2⟩
   clear hz
   go_enter Tryz.func67,Tryz.ntmps67
   go_wp2
   go_ret
   exact ⟨by rw [Ea.out]; rfl,Below.refl _ _⟩
  ·clear hz
   go_enter Tryz.func67,Tryz.ntmps67
   go_wp2
   go_ret
   exact ⟨by rw [Ea.out]; rfl,Below.refl _ _⟩
end Go.Proofs.YtoeoimhemojdeaaGreatDoor
