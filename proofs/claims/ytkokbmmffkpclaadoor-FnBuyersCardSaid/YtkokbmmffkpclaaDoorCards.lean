/-
  DERIVED. GIVEN WITH THE SEED: THE CARDS: each row of YtkokbmmffkpclaaDoorRows.lean that lists a variable, with what it lists TIED to the program's text (the seventh form; the later family's looks); each row that meets fmt, with fmt's text TOLD by the authors' own Lean function (tested against real Go, not proved from fmt's source: count such statements apart). THE CARD IS WHAT COUNTS. Prove the row's statement (the work); the ties are given (YtkokbmmffkpclaaDoorTie.lean); close each card by the builder's one call (the guide's Derived/Test/ToyasCard.lean, 'card_holds'). Laid BY PROGRAM, IN A SANDBOX (cutbox-door.mjs). By AI agents, Wed Nov 11 2026. No macro, syntax, notation, axiom, sorry.
-/
import Derived.Test.YtkokbmmffkpclaaDoorRows
import GoSem.ClaimSeven
namespace Go.Proofs.YtkokbmmffkpclaaDoor
namespace Rows

/-- THE TIED CARD OF 'laws.FnBuyers'. -/
def fnBuyersCard : Claim7 := { stood := { row := fnBuyersRow, standIns := [], harness := (true, "919df8ec71efe72d23867d154deac99aed49bd7e260a4815499bb7d7fe10a822"), looks := false }, kinds := [], alts := [], laidByText := true, laidKinds := [.data, .data, .data], laidTests := true, laidLooks := .later }
def FnBuyersCardSaid : Prop := Claim7.holds Tryd.pinned (.plain (OpenSpec.ofChange fnBuyersSpec)) fnBuyersCard

/-- THE SECOND FORM's CARD OF 'laws.FnBuyers'. -/
def fnBuyersUptoCard : Claim7 := { stood := { row := fnBuyersUptoRow, standIns := [], harness := (true, "919df8ec71efe72d23867d154deac99aed49bd7e260a4815499bb7d7fe10a822"), looks := false }, kinds := [], alts := [], laidByText := true, laidKinds := [.data, .data, .data], laidTests := true, laidLooks := .later }
def FnBuyersUptoCardSaid : Prop := Claim7.holds Tryd.pinned (.plain (OpenSpec.upto fnBuyersSpec)) fnBuyersUptoCard
end Rows
end Go.Proofs.YtkokbmmffkpclaaDoor
