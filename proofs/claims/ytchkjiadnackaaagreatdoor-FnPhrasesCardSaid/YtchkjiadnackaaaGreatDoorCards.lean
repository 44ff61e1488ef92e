/-
  DERIVED. GIVEN WITH THE SEED: THE CARDS: each row of YtchkjiadnackaaaGreatDoorRows.lean that lists a variable, with what it lists TIED to the program's text (the seventh form; the later family's looks); each row that meets fmt, with fmt's text TOLD by the authors' own Lean function (tested against real Go, not proved from fmt's source: count such statements apart). THE CARD IS WHAT COUNTS. Prove the row's statement (the work); the ties are given (YtchkjiadnackaaaGreatDoorTie.lean); close each card by the builder's one call (the guide's Derived/Test/ToyasCard.lean, 'card_holds'). Laid BY PROGRAM, IN A SANDBOX (cutbox-door.mjs). By AI agents, Wed Nov 11 2026. No macro, syntax, notation, axiom, sorry.
-/
import Derived.Test.YtchkjiadnackaaaGreatDoorRows
import GoSem.ClaimSeven
namespace Go.Proofs.YtchkjiadnackaaaGreatDoor
namespace Rows

/-- THE TIED CARD OF 'laws.FnPhrases'. -/
def fnPhrasesCard : Claim7 := { stood := { row := fnPhrasesRow, standIns := [], harness := (true, "245bae4f4cc7e3b9b5c7a3014646d184f35d2942b8522f5a80e28ff9f7540b5e"), looks := true }, kinds := [], alts := [], laidByText := true, laidKinds := [.data, .data, .data, .data, .sentinel, .sentinel, .pinned], laidTests := true, laidLooks := .later }
def FnPhrasesCardSaid : Prop := Claim7.holds Tryz.pinned (.plain (OpenSpec.ofChange fnPhrasesSpec)) fnPhrasesCard

/-- THE SECOND FORM's CARD OF 'laws.FnPhrases'. -/
def fnPhrasesUptoCard : Claim7 := { stood := { row := fnPhrasesUptoRow, standIns := [], harness := (true, "245bae4f4cc7e3b9b5c7a3014646d184f35d2942b8522f5a80e28ff9f7540b5e"), looks := true }, kinds := [], alts := [], laidByText := true, laidKinds := [.data, .data, .data, .data, .sentinel, .sentinel, .pinned], laidTests := true, laidLooks := .later }
def FnPhrasesUptoCardSaid : Prop := Claim7.holds Tryz.pinned (.plain (OpenSpec.upto fnPhrasesSpec)) fnPhrasesUptoCard
end Rows
end Go.Proofs.YtchkjiadnackaaaGreatDoor
