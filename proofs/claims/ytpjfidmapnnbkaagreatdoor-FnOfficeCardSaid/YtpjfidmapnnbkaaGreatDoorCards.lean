/-
  DERIVED. GIVEN WITH THE SEED: THE CARDS: each row of YtpjfidmapnnbkaaGreatDoorRows.lean that lists a variable, with what it lists TIED to the program's text (the seventh form; the later family's looks); each row that meets fmt, with fmt's text TOLD by the authors' own Lean function (tested against real Go, not proved from fmt's source: count such statements apart). THE CARD IS WHAT COUNTS. Prove the row's statement (the work); the ties are given (YtpjfidmapnnbkaaGreatDoorTie.lean); close each card by the builder's one call (the guide's Derived/Test/ToyasCard.lean, 'card_holds'). Laid BY PROGRAM, IN A SANDBOX (cutbox-door.mjs). By AI agents, Wed Nov 11 2026. No macro, syntax, notation, axiom, sorry.
-/
import Derived.Test.YtpjfidmapnnbkaaGreatDoorRows
import GoSem.ClaimSeven
namespace Go.Proofs.YtpjfidmapnnbkaaGreatDoor
namespace Rows

/-- THE TIED CARD OF 'laws.FnOffice'. -/
def fnOfficeCard : Claim7 := { stood := { row := fnOfficeRow, standIns := [], harness := (true, "5ee4e714b579554fdd5c5e29291bca1fa0860cbb56eaa5fd793733f269f72e9d"), looks := true }, kinds := [], alts := [], laidByText := true, laidKinds := [.data, .data, .data, .data, .sentinel, .sentinel, .pinned], laidTests := true, laidLooks := .later }
def FnOfficeCardSaid : Prop := Claim7.holds Tryz.pinned (.plain (OpenSpec.ofChange fnOfficeSpec)) fnOfficeCard

/-- THE SECOND FORM's CARD OF 'laws.FnOffice'. -/
def fnOfficeUptoCard : Claim7 := { stood := { row := fnOfficeUptoRow, standIns := [], harness := (true, "5ee4e714b579554fdd5c5e29291bca1fa0860cbb56eaa5fd793733f269f72e9d"), looks := true }, kinds := [], alts := [], laidByText := true, laidKinds := [.data, .data, .data, .data, .sentinel, .sentinel, .pinned], laidTests := true, laidLooks := .later }
def FnOfficeUptoCardSaid : Prop := Claim7.holds Tryz.pinned (.plain (OpenSpec.upto fnOfficeSpec)) fnOfficeUptoCard
end Rows
end Go.Proofs.YtpjfidmapnnbkaaGreatDoor
