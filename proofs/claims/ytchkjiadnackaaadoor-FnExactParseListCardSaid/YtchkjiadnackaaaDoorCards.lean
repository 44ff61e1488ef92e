/-
  DERIVED. GIVEN WITH THE SEED: THE CARDS: each row of YtchkjiadnackaaaDoorRows.lean that lists a variable, with what it lists TIED to the program's text (the seventh form; the later family's looks); each row that meets fmt, with fmt's text TOLD by the authors' own Lean function (tested against real Go, not proved from fmt's source: count such statements apart). THE CARD IS WHAT COUNTS. Prove the row's statement (the work); the ties are given (YtchkjiadnackaaaDoorTie.lean); close each card by the builder's one call (the guide's Derived/Test/ToyasCard.lean, 'card_holds'). Laid BY PROGRAM, IN A SANDBOX (cutbox-door.mjs). By AI agents, Wed Nov 11 2026. No macro, syntax, notation, axiom, sorry.
-/
import Derived.Test.YtchkjiadnackaaaDoorRows
import GoSem.ClaimSeven
namespace Go.Proofs.YtchkjiadnackaaaDoor
namespace Rows

/-- THE TIED CARD OF 'laws.FnExactParsePhrase'. -/
def fnExactParsePhraseCard : Claim7 := { stood := { row := fnExactParsePhraseRow, standIns := [], harness := (true, "3f40d1fd27e8ec9fe0023e60434e12bcda4b25be4dc7ccc614ae9f75f4998e5f"), looks := true }, kinds := [], alts := [], laidByText := true, laidKinds := [.data, .data, .data, .data, .sentinel, .sentinel, .pinned], laidTests := true, laidLooks := .later }
def FnExactParsePhraseCardSaid : Prop := Claim7.holds Tryd.pinned (.plain (OpenSpec.ofChange fnExactParsePhraseSpec)) fnExactParsePhraseCard

/-- THE TIED CARD OF 'laws.FnExactParseList'. -/
def fnExactParseListCard : Claim7 := { stood := { row := fnExactParseListRow, standIns := [], harness := (true, "3f40d1fd27e8ec9fe0023e60434e12bcda4b25be4dc7ccc614ae9f75f4998e5f"), looks := true }, kinds := [], alts := [], laidByText := true, laidKinds := [.data, .data, .data, .data, .sentinel, .sentinel, .pinned], laidTests := true, laidLooks := .later }
def FnExactParseListCardSaid : Prop := Claim7.holds Tryd.pinned (.plain (OpenSpec.ofChange fnExactParseListSpec)) fnExactParseListCard

/-- THE SECOND FORM's CARD OF 'laws.FnExactParsePhrase'. -/
def fnExactParsePhraseUptoCard : Claim7 := { stood := { row := fnExactParsePhraseUptoRow, standIns := [], harness := (true, "3f40d1fd27e8ec9fe0023e60434e12bcda4b25be4dc7ccc614ae9f75f4998e5f"), looks := true }, kinds := [], alts := [], laidByText := true, laidKinds := [.data, .data, .data, .data, .sentinel, .sentinel, .pinned], laidTests := true, laidLooks := .later }
def FnExactParsePhraseUptoCardSaid : Prop := Claim7.holds Tryd.pinned (.plain (OpenSpec.upto fnExactParsePhraseSpec)) fnExactParsePhraseUptoCard

/-- THE SECOND FORM's CARD OF 'laws.FnExactParseList'. -/
def fnExactParseListUptoCard : Claim7 := { stood := { row := fnExactParseListUptoRow, standIns := [], harness := (true, "3f40d1fd27e8ec9fe0023e60434e12bcda4b25be4dc7ccc614ae9f75f4998e5f"), looks := true }, kinds := [], alts := [], laidByText := true, laidKinds := [.data, .data, .data, .data, .sentinel, .sentinel, .pinned], laidTests := true, laidLooks := .later }
def FnExactParseListUptoCardSaid : Prop := Claim7.holds Tryd.pinned (.plain (OpenSpec.upto fnExactParseListSpec)) fnExactParseListUptoCard
end Rows
end Go.Proofs.YtchkjiadnackaaaDoor
