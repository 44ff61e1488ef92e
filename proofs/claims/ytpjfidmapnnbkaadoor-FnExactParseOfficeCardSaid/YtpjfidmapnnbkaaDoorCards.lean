/-
  DERIVED. GIVEN WITH THE SEED: THE CARDS: each row of YtpjfidmapnnbkaaDoorRows.lean that lists a variable, with what it lists TIED to the program's text (the seventh form; the later family's looks); each row that meets fmt, with fmt's text TOLD by the authors' own Lean function (tested against real Go, not proved from fmt's source: count such statements apart). THE CARD IS WHAT COUNTS. Prove the row's statement (the work); the ties are given (YtpjfidmapnnbkaaDoorTie.lean); close each card by the builder's one call (the guide's Derived/Test/ToyasCard.lean, 'card_holds'). Laid BY PROGRAM, IN A SANDBOX (cutbox-door.mjs). By AI agents, Wed Nov 11 2026. No macro, syntax, notation, axiom, sorry.
-/
import Derived.Test.YtpjfidmapnnbkaaDoorRows
import GoSem.ClaimSeven
namespace Go.Proofs.YtpjfidmapnnbkaaDoor
namespace Rows

/-- THE TIED CARD OF 'laws.FnExactParseOffice'. -/
def fnExactParseOfficeCard : Claim7 := { stood := { row := fnExactParseOfficeRow, standIns := [], harness := (true, "5141f9b5b081c7e8022ca5613ca3a62de10c13aecaa5aa0c7d3af80c27785426"), looks := true }, kinds := [], alts := [], laidByText := true, laidKinds := [.data, .data, .data, .data, .sentinel, .sentinel, .pinned], laidTests := true, laidLooks := .later }
def FnExactParseOfficeCardSaid : Prop := Claim7.holds Tryd.pinned (.plain (OpenSpec.ofChange fnExactParseOfficeSpec)) fnExactParseOfficeCard

/-- THE SECOND FORM's CARD OF 'laws.FnExactParseOffice'. -/
def fnExactParseOfficeUptoCard : Claim7 := { stood := { row := fnExactParseOfficeUptoRow, standIns := [], harness := (true, "5141f9b5b081c7e8022ca5613ca3a62de10c13aecaa5aa0c7d3af80c27785426"), looks := true }, kinds := [], alts := [], laidByText := true, laidKinds := [.data, .data, .data, .data, .sentinel, .sentinel, .pinned], laidTests := true, laidLooks := .later }
def FnExactParseOfficeUptoCardSaid : Prop := Claim7.holds Tryd.pinned (.plain (OpenSpec.upto fnExactParseOfficeSpec)) fnExactParseOfficeUptoCard
end Rows
end Go.Proofs.YtpjfidmapnnbkaaDoor
