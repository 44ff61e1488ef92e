/- Lemmas. -/
import Derived.Test.YtoeoimhemojdeaaGreatDoorFs07

set_option linter.unusedVariables false
set_option linter.unusedSimpArgs false
set_option maxHeartbeats 8000000
open Go.Value renaming int → O, slice → F, string → wG
open Go.IntKind renaming i64 → U
open Go.Proofs.Tryz renaming prog → wH

namespace Go.Proofs.YtoeoimhemojdeaaGreatDoor
open Go.RowKit
set_option maxRecDepth 100000 in
theorem mf (x:aO) (g:Nat) (w:World) (h:cw w w.heap.size g x) (Ad:(fp x && iW x)=false) :
  Calls wH 67 #[.pointer (some ⟨g,0,none⟩)] w fun e w'=>e=.returned (.bool (ao x))∧Below w.heap.size w w':=by
 have s0:w.cell? ⟨g,0,none⟩=some (F x.TA x.t.length x.tc):=h.s.c0 (ap.start _ _)
 have s1:w.cell? ⟨g,1,none⟩=some (F x.OA x.o.length x.oc):=h.s.c1 (ap.start _ _)
 have s2:w.cell? ⟨g,2,none⟩=some (O U x.gt):=h.s.c2 (ap.start _ _)
 have s3:w.cell? ⟨g,3,none⟩=some (O U x.sd):=h.s.c3 (ap.start _ _)
 have s4:w.cell? ⟨g,4,none⟩=some (O U x.ms):=h.s.c4 (ap.start _ _)
 have hl:=h.r.ts.big
 have hm:=h.r.os.big
 have c3:=fun W=>aN x.gt 0 99999 W
 have c4:=fun W=>aN x.sd 0 99999 W
 have c5:=fun W=>aN x.ms 0 99999 W
 have LU:=jZ Ad; clear Ad
 have HG:Hid (ao x=(fp x && (cg x.gt 0 99999 && cg x.sd 0 99999 && cg x.ms 0 99999) && fo x.t && fc x.t x.o && lw x)):=rfl
 by_cases hz:x.t.length≤8∧x.o.length≤8
 ·obtain ⟨tl,ol⟩:=hz
  have HZ:Hid (fp x=true):=by unfold Hid fp; rw [jD tl,jD ol]; rfl
  obtain ⟨v3,zu⟩ : ∃ v,cg x.gt 0 99999=v:=⟨_,rfl⟩
  obtain ⟨v4,AA⟩ : ∃ v,cg x.sd 0 99999=v:=⟨_,rfl⟩
  obtain ⟨v5,zW⟩ : ∃ v,cg x.ms 0 99999=v:=⟨_,rfl⟩
  rw [zu] at c3
  rw [AA] at c4
  rw [zW] at c5
  rw [zu,AA,zW] at HG
  have zi:=jZ zu; clear zu
  have CI:=jZ AA; clear AA
  have IQ:=jZ zW; clear zW
  by_cases yN:(v3 && v4 && v5)=true
  ·exfalso
   have hn:iW x=true:=by unfold iW; rw [zi.out,CI.out,IQ.out]; exact yN
   have Ad:=LU.out
   rw [HZ.out,hn] at Ad; cases Ad
  ·have FF:Hid (ao x=false):=by
    unfold Hid; rw [HG.out,HZ.out]
    cases v3 <;> cases v4 <;> cases v5 <;> first | rfl | exact absurd rfl yN
   cases v3
   all_goals (try cases v4)
   all_goals (try cases v5)
   all_goals first
    | exact absurd rfl yN
    | skip
   all_goals
    clear yN
    go_enter Tryz.func67,Tryz.ntmps67
    go_wp2_with fail
    refine (c3 _).mono ?_
    rintro e w3 ⟨rfl,rfl⟩
    go_wp2_with (first | (go_at_call 75; with_reducible refine (c4 _).mono ?_; rintro e w4 ⟨rfl,rfl⟩) | (go_at_call 75; with_reducible refine (c5 _).mono ?_; rintro e w4 ⟨rfl,rfl⟩))
    go_ret
    exact ⟨by rw [FF.out]; rfl,Below.refl _ _⟩
 ·have FF:Hid (ao x=false):=by
   unfold Hid; rw [HG.out]
   have:fp x=false:=by
    unfold fp
    by_cases h1:x.t.length≤8
    ·rw [jE (show ¬ x.o.length≤8 from fun h2=>hz ⟨h1,h2⟩),Bool.and_false]
    ·rw [jE h1,Bool.false_and]
   rw [this]; rfl
  by_cases h1:x.t.length≤8
  ·have h2 : ¬ x.o.length≤8:=fun h2=>hz ⟨h1,h2⟩
   clear hz
   go_enter Tryz.func67,Tryz.ntmps67
   go_wp2
   go_ret
   exact ⟨by rw [FF.out]; rfl,Below.refl _ _⟩
  ·clear hz
   go_enter Tryz.func67,Tryz.ntmps67
   go_wp2
   go_ret
   exact ⟨by rw [FF.out]; rfl,Below.refl _ _⟩
end Go.Proofs.YtoeoimhemojdeaaGreatDoor
