/-
  DERIVED. GIVEN WITH THE SEED: THE CARDS: each row of YtdiojhjkcholiaaDoorRows.lean that lists a variable, with what it lists TIED to the program's text (the seventh form; the later family's looks); each row that meets fmt, with fmt's text TOLD by the authors' own Lean function (tested against real Go, not proved from fmt's source: count such statements apart). THE CARD IS WHAT COUNTS. Prove the row's statement (the work); the ties are given (YtdiojhjkcholiaaDoorTie.lean); close each card by the builder's one call (the guide's Derived/Test/ToyasCard.lean, 'card_holds'). Laid BY PROGRAM, IN A SANDBOX (cutbox-door.mjs). By AI agents, Wed Nov 11 2026. No macro, syntax, notation, axiom, sorry.
-/
import Derived.Test.YtdiojhjkcholiaaDoorRows
import GoSem.ClaimSeven
namespace Go.Proofs.YtdiojhjkcholiaaDoor
namespace Rows

/-- THE TIED CARD OF 'laws.FnExactTrayText'. -/
def fnExactTrayTextCard : Claim7 := { stood := { row := fnExactTrayTextRow, standIns := [], harness := (true, "8059fefbe17e44bdca46b8c7a57881212bfea9ea0435006156a55c67b03cbd05"), looks := false }, kinds := [], alts := [], laidByText := true, laidKinds := [.data, .data, .data], laidTests := true, laidLooks := .later }
def FnExactTrayTextCardSaid : Prop := Claim7.holds Tryd.pinned (.plain (OpenSpec.ofChange fnExactTrayTextSpec)) fnExactTrayTextCard

/-- THE TIED CARD OF 'laws.FnTrays'. -/
def fnTraysCard : Claim7 := { stood := { row := fnTraysRow, standIns := [], harness := (true, "8059fefbe17e44bdca46b8c7a57881212bfea9ea0435006156a55c67b03cbd05"), looks := false }, kinds := [], alts := [], laidByText := true, laidKinds := [.data, .data, .data], laidTests := true, laidLooks := .later }
def FnTraysCardSaid : Prop := Claim7.holds Tryd.pinned (.plain (OpenSpec.ofChange fnTraysSpec)) fnTraysCard

/-- THE SECOND FORM's CARD OF 'laws.FnExactTrayText'. -/
def fnExactTrayTextUptoCard : Claim7 := { stood := { row := fnExactTrayTextUptoRow, standIns := [], harness := (true, "8059fefbe17e44bdca46b8c7a57881212bfea9ea0435006156a55c67b03cbd05"), looks := false }, kinds := [], alts := [], laidByText := true, laidKinds := [.data, .data, .data], laidTests := true, laidLooks := .later }
def FnExactTrayTextUptoCardSaid : Prop := Claim7.holds Tryd.pinned (.plain (OpenSpec.upto fnExactTrayTextSpec)) fnExactTrayTextUptoCard

/-- THE SECOND FORM's CARD OF 'laws.FnTrays'. -/
def fnTraysUptoCard : Claim7 := { stood := { row := fnTraysUptoRow, standIns := [], harness := (true, "8059fefbe17e44bdca46b8c7a57881212bfea9ea0435006156a55c67b03cbd05"), looks := false }, kinds := [], alts := [], laidByText := true, laidKinds := [.data, .data, .data], laidTests := true, laidLooks := .later }
def FnTraysUptoCardSaid : Prop := Claim7.holds Tryd.pinned (.plain (OpenSpec.upto fnTraysSpec)) fnTraysUptoCard
end Rows
end Go.Proofs.YtdiojhjkcholiaaDoor
