/-
  DERIVED. GIVEN WITH THE SEED: THE CARDS: each row of YtgdjdejfegkjdaaDoorRows.lean that lists a variable, with what it lists TIED to the program's text (the seventh form; the later family's looks); each row that meets fmt, with fmt's text TOLD by the authors' own Lean function (tested against real Go, not proved from fmt's source: count such statements apart). THE CARD IS WHAT COUNTS. Prove the row's statement (the work); the ties are given (YtgdjdejfegkjdaaDoorTie.lean); close each card by the builder's one call (the guide's Derived/Test/ToyasCard.lean, 'card_holds'). Laid BY PROGRAM, IN A SANDBOX (cutbox-door.mjs). By AI agents, Wed Nov 11 2026. No macro, syntax, notation, axiom, sorry.
-/
import Derived.Test.YtgdjdejfegkjdaaDoorRows
import GoSem.ClaimSeven
namespace Go.Proofs.YtgdjdejfegkjdaaDoor
namespace Rows

/-- THE TIED CARD OF 'laws.FnExactOfficeLine'. -/
def fnExactOfficeLineCard : Claim7 := { stood := { row := fnExactOfficeLineRow, standIns := [], harness := (true, "f0c95ef2220a8aa44a255632ea93e355166fdb458e0ba2dff98a94a0aa4c7844"), looks := true }, kinds := [], alts := [], laidByText := true, laidKinds := [.data, .data, .data], laidTests := true, laidLooks := .later }
def FnExactOfficeLineCardSaid : Prop := Claim7.holds Tryd.pinned (.plain (OpenSpec.ofChange fnExactOfficeLineSpec)) fnExactOfficeLineCard

/-- THE TIED CARD OF 'laws.FnExactOfficeReport'. -/
def fnExactOfficeReportCard : Claim7 := { stood := { row := fnExactOfficeReportRow, standIns := [], harness := (true, "f0c95ef2220a8aa44a255632ea93e355166fdb458e0ba2dff98a94a0aa4c7844"), looks := true }, kinds := [], alts := [], laidByText := true, laidKinds := [.data, .data, .data], laidTests := true, laidLooks := .later }
def FnExactOfficeReportCardSaid : Prop := Claim7.holds Tryd.pinned (.plain (OpenSpec.ofChange fnExactOfficeReportSpec)) fnExactOfficeReportCard

/-- THE TIED CARD OF 'laws.FnExactParseOffice'. -/
def fnExactParseOfficeCard : Claim7 := { stood := { row := fnExactParseOfficeRow, standIns := [], harness := (true, "f0c95ef2220a8aa44a255632ea93e355166fdb458e0ba2dff98a94a0aa4c7844"), looks := true }, kinds := [], alts := [], laidByText := true, laidKinds := [.data, .data, .data, .data, .sentinel, .sentinel, .pinned], laidTests := true, laidLooks := .later }
def FnExactParseOfficeCardSaid : Prop := Claim7.holds Tryd.pinned (.plain (OpenSpec.ofChange fnExactParseOfficeSpec)) fnExactParseOfficeCard

/-- THE SECOND FORM's CARD OF 'laws.FnExactOfficeLine'. -/
def fnExactOfficeLineUptoCard : Claim7 := { stood := { row := fnExactOfficeLineUptoRow, standIns := [], harness := (true, "f0c95ef2220a8aa44a255632ea93e355166fdb458e0ba2dff98a94a0aa4c7844"), looks := true }, kinds := [], alts := [], laidByText := true, laidKinds := [.data, .data, .data], laidTests := true, laidLooks := .later }
def FnExactOfficeLineUptoCardSaid : Prop := Claim7.holds Tryd.pinned (.plain (OpenSpec.upto fnExactOfficeLineSpec)) fnExactOfficeLineUptoCard

/-- THE SECOND FORM's CARD OF 'laws.FnExactOfficeReport'. -/
def fnExactOfficeReportUptoCard : Claim7 := { stood := { row := fnExactOfficeReportUptoRow, standIns := [], harness := (true, "f0c95ef2220a8aa44a255632ea93e355166fdb458e0ba2dff98a94a0aa4c7844"), looks := true }, kinds := [], alts := [], laidByText := true, laidKinds := [.data, .data, .data], laidTests := true, laidLooks := .later }
def FnExactOfficeReportUptoCardSaid : Prop := Claim7.holds Tryd.pinned (.plain (OpenSpec.upto fnExactOfficeReportSpec)) fnExactOfficeReportUptoCard

/-- THE SECOND FORM's CARD OF 'laws.FnExactParseOffice'. -/
def fnExactParseOfficeUptoCard : Claim7 := { stood := { row := fnExactParseOfficeUptoRow, standIns := [], harness := (true, "f0c95ef2220a8aa44a255632ea93e355166fdb458e0ba2dff98a94a0aa4c7844"), looks := true }, kinds := [], alts := [], laidByText := true, laidKinds := [.data, .data, .data, .data, .sentinel, .sentinel, .pinned], laidTests := true, laidLooks := .later }
def FnExactParseOfficeUptoCardSaid : Prop := Claim7.holds Tryd.pinned (.plain (OpenSpec.upto fnExactParseOfficeSpec)) fnExactParseOfficeUptoCard
end Rows
end Go.Proofs.YtgdjdejfegkjdaaDoor
