/-
  DERIVED. GIVEN WITH THE SEED: THE CARDS: each row of YtjdedcalbcnkmaaDoorRows.lean that lists a variable, with what it lists TIED to the program's text (the seventh form; the later family's looks); each row that meets fmt, with fmt's text TOLD by the authors' own Lean function (tested against real Go, not proved from fmt's source: count such statements apart). THE CARD IS WHAT COUNTS. Prove the row's statement (the work); the ties are given (YtjdedcalbcnkmaaDoorTie.lean); close each card by the builder's one call (the guide's Derived/Test/ToyasCard.lean, 'card_holds'). Laid BY PROGRAM, IN A SANDBOX (cutbox-door.mjs). By AI agents, Wed Nov 11 2026. No macro, syntax, notation, axiom, sorry.
-/
import Derived.Test.YtjdedcalbcnkmaaDoorRows
import GoSem.ClaimSeven
namespace Go.Proofs.YtjdedcalbcnkmaaDoor
namespace Rows

/-- THE TIED CARD OF 'laws.FnExactShortText'. -/
def fnExactShortTextCard : Claim7 := { stood := { row := fnExactShortTextRow, standIns := [], harness := (true, "9ece7a9f90c8073d0ea79fbb3bf0c751fdeb9ce693c9f91a290aaf5a05f61d8a"), looks := true }, kinds := [], alts := [], laidByText := true, laidKinds := [.data, .data, .data], laidTests := true, laidLooks := .later }
def FnExactShortTextCardSaid : Prop := Claim7.holds Tryd.pinned (.plain (OpenSpec.ofChange fnExactShortTextSpec)) fnExactShortTextCard

/-- THE TIED CARD OF 'laws.FnExactLongText'. -/
def fnExactLongTextCard : Claim7 := { stood := { row := fnExactLongTextRow, standIns := [], harness := (true, "9ece7a9f90c8073d0ea79fbb3bf0c751fdeb9ce693c9f91a290aaf5a05f61d8a"), looks := true }, kinds := [], alts := [], laidByText := true, laidKinds := [.data, .data, .data], laidTests := true, laidLooks := .later }
def FnExactLongTextCardSaid : Prop := Claim7.holds Tryd.pinned (.plain (OpenSpec.ofChange fnExactLongTextSpec)) fnExactLongTextCard

/-- THE TIED CARD OF 'laws.FnExactListText'. -/
def fnExactListTextCard : Claim7 := { stood := { row := fnExactListTextRow, standIns := [], harness := (true, "9ece7a9f90c8073d0ea79fbb3bf0c751fdeb9ce693c9f91a290aaf5a05f61d8a"), looks := true }, kinds := [], alts := [], laidByText := true, laidKinds := [.data, .data, .data], laidTests := true, laidLooks := .later }
def FnExactListTextCardSaid : Prop := Claim7.holds Tryd.pinned (.plain (OpenSpec.ofChange fnExactListTextSpec)) fnExactListTextCard

/-- THE TIED CARD OF 'laws.FnExactParsePhrase'. -/
def fnExactParsePhraseCard : Claim7 := { stood := { row := fnExactParsePhraseRow, standIns := [], harness := (true, "9ece7a9f90c8073d0ea79fbb3bf0c751fdeb9ce693c9f91a290aaf5a05f61d8a"), looks := true }, kinds := [], alts := [], laidByText := true, laidKinds := [.data, .data, .data, .data, .sentinel, .sentinel, .pinned], laidTests := true, laidLooks := .later }
def FnExactParsePhraseCardSaid : Prop := Claim7.holds Tryd.pinned (.plain (OpenSpec.ofChange fnExactParsePhraseSpec)) fnExactParsePhraseCard

/-- THE TIED CARD OF 'laws.FnExactParseList'. -/
def fnExactParseListCard : Claim7 := { stood := { row := fnExactParseListRow, standIns := [], harness := (true, "9ece7a9f90c8073d0ea79fbb3bf0c751fdeb9ce693c9f91a290aaf5a05f61d8a"), looks := true }, kinds := [], alts := [], laidByText := true, laidKinds := [.data, .data, .data, .data, .sentinel, .sentinel, .pinned], laidTests := true, laidLooks := .later }
def FnExactParseListCardSaid : Prop := Claim7.holds Tryd.pinned (.plain (OpenSpec.ofChange fnExactParseListSpec)) fnExactParseListCard

/-- THE SECOND FORM's CARD OF 'laws.FnExactShortText'. -/
def fnExactShortTextUptoCard : Claim7 := { stood := { row := fnExactShortTextUptoRow, standIns := [], harness := (true, "9ece7a9f90c8073d0ea79fbb3bf0c751fdeb9ce693c9f91a290aaf5a05f61d8a"), looks := true }, kinds := [], alts := [], laidByText := true, laidKinds := [.data, .data, .data], laidTests := true, laidLooks := .later }
def FnExactShortTextUptoCardSaid : Prop := Claim7.holds Tryd.pinned (.plain (OpenSpec.upto fnExactShortTextSpec)) fnExactShortTextUptoCard

/-- THE SECOND FORM's CARD OF 'laws.FnExactLongText'. -/
def fnExactLongTextUptoCard : Claim7 := { stood := { row := fnExactLongTextUptoRow, standIns := [], harness := (true, "9ece7a9f90c8073d0ea79fbb3bf0c751fdeb9ce693c9f91a290aaf5a05f61d8a"), looks := true }, kinds := [], alts := [], laidByText := true, laidKinds := [.data, .data, .data], laidTests := true, laidLooks := .later }
def FnExactLongTextUptoCardSaid : Prop := Claim7.holds Tryd.pinned (.plain (OpenSpec.upto fnExactLongTextSpec)) fnExactLongTextUptoCard

/-- THE SECOND FORM's CARD OF 'laws.FnExactListText'. -/
def fnExactListTextUptoCard : Claim7 := { stood := { row := fnExactListTextUptoRow, standIns := [], harness := (true, "9ece7a9f90c8073d0ea79fbb3bf0c751fdeb9ce693c9f91a290aaf5a05f61d8a"), looks := true }, kinds := [], alts := [], laidByText := true, laidKinds := [.data, .data, .data], laidTests := true, laidLooks := .later }
def FnExactListTextUptoCardSaid : Prop := Claim7.holds Tryd.pinned (.plain (OpenSpec.upto fnExactListTextSpec)) fnExactListTextUptoCard

/-- THE SECOND FORM's CARD OF 'laws.FnExactParsePhrase'. -/
def fnExactParsePhraseUptoCard : Claim7 := { stood := { row := fnExactParsePhraseUptoRow, standIns := [], harness := (true, "9ece7a9f90c8073d0ea79fbb3bf0c751fdeb9ce693c9f91a290aaf5a05f61d8a"), looks := true }, kinds := [], alts := [], laidByText := true, laidKinds := [.data, .data, .data, .data, .sentinel, .sentinel, .pinned], laidTests := true, laidLooks := .later }
def FnExactParsePhraseUptoCardSaid : Prop := Claim7.holds Tryd.pinned (.plain (OpenSpec.upto fnExactParsePhraseSpec)) fnExactParsePhraseUptoCard

/-- THE SECOND FORM's CARD OF 'laws.FnExactParseList'. -/
def fnExactParseListUptoCard : Claim7 := { stood := { row := fnExactParseListUptoRow, standIns := [], harness := (true, "9ece7a9f90c8073d0ea79fbb3bf0c751fdeb9ce693c9f91a290aaf5a05f61d8a"), looks := true }, kinds := [], alts := [], laidByText := true, laidKinds := [.data, .data, .data, .data, .sentinel, .sentinel, .pinned], laidTests := true, laidLooks := .later }
def FnExactParseListUptoCardSaid : Prop := Claim7.holds Tryd.pinned (.plain (OpenSpec.upto fnExactParseListSpec)) fnExactParseListUptoCard
end Rows
end Go.Proofs.YtjdedcalbcnkmaaDoor
