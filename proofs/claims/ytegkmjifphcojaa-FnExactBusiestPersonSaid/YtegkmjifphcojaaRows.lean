/-
  No cell of these rows narrows 'for every input' (looked for: loops, veiled, ifaces, maps, wideKeys, modest, calm, conditions, laid).
  DERIVED. THE GIVEN ROWS OF THIS SEAT. 11 by the template 'for every input the law returns true; each argument reads behind the call as it read before'; 0 by the template 'total and deterministic' (their statements: YtegkmjifphcojaaTotals.lean).
  GIVEN WITH THE SEED: the statements are not yours to turn. If you find one false, say at which input.
  Laid BY PROGRAM, IN A SANDBOX (cutbox-rows.mjs): the forced cells as the released guide's own fill.sh prints them over the translation 172125b30165e006… (all of the seat's roots in one cut). By AI agents, Wed Nov 11 2026. No macro, syntax, notation, axiom, sorry.
-/
import Derived.Test.YtegkmjifphcojaaChecked
import GoSem.Claim
import GoSem.ClaimJoined
import GoSem.ClaimMapViews
import Derived.JoinedTies
import Derived.KernelRfl
namespace Go.Proofs.Ytegkmjifphcojaa
/- THE CELL 'sum', in the pinned program and in every row, IS THE sha256 OF THE DUMP (.gsa) THAT YtegkmjifphcojaaProg.lean LOADS. Nothing in Lean hashes anything: it is a label: what it is worth is what the hold of that sum in a sandbox is worth. -/
noncomputable def Try.pinned : Pinned := { name := "ytegkmjifphcojaa", sum := "172125b30165e006a01d61e5421efca35f6a669d00f9d75a83889edf8ce8c305", checked := Try.checked }
namespace Rows
def none {H : Type} : Left H := { results := [], args := [] }

/-- 'laws.FnExactIsOffice': WHATEVER THE INPUT: true; the input reads as it did. -/
def fnExactIsOfficeSpec : ChangeSpec := { name := "fnExactIsOffice", fn := fun _ => fun
  | [d] => { results := [.lit (.bool true)], args := [d] }
  | _ => none }
def fnExactIsOfficeRow : OpenClaim := { program := "ytegkmjifphcojaa", sum := "172125b30165e006a01d61e5421efca35f6a669d00f9d75a83889edf8ce8c305", func := "loop.example/g01062/laws.FnExactIsOffice", spec := "fnExactIsOffice", unfollowed := true, recurses := true, apart := false }
def FnExactIsOfficeSaid : Prop := fnExactIsOfficeRow.holds Try.pinned (OpenSpec.ofChange fnExactIsOfficeSpec)

/-- ITS FALSE NEIGHBOUR: 'it returns false'. Refute it at one input. -/
def fnExactIsOfficeWrong : ChangeSpec := { name := "fnExactIsOffice", fn := fun _ => fun
  | [d] => { results := [.lit (.bool false)], args := [d] }
  | _ => none }
def FnExactIsOfficeWrongFalsely : Prop := fnExactIsOfficeRow.holds Try.pinned (OpenSpec.ofChange fnExactIsOfficeWrong)

/-- 'laws.FnExactStampsIn': WHATEVER THE INPUT: true; the input reads as it did. -/
def fnExactStampsInSpec : ChangeSpec := { name := "fnExactStampsIn", fn := fun _ => fun
  | [d] => { results := [.lit (.bool true)], args := [d] }
  | _ => none }
def fnExactStampsInRow : OpenClaim := { program := "ytegkmjifphcojaa", sum := "172125b30165e006a01d61e5421efca35f6a669d00f9d75a83889edf8ce8c305", func := "loop.example/g01062/laws.FnExactStampsIn", spec := "fnExactStampsIn", unfollowed := true, recurses := true, apart := false }
def FnExactStampsInSaid : Prop := fnExactStampsInRow.holds Try.pinned (OpenSpec.ofChange fnExactStampsInSpec)

/-- ITS FALSE NEIGHBOUR: 'it returns false'. Refute it at one input. -/
def fnExactStampsInWrong : ChangeSpec := { name := "fnExactStampsIn", fn := fun _ => fun
  | [d] => { results := [.lit (.bool false)], args := [d] }
  | _ => none }
def FnExactStampsInWrongFalsely : Prop := fnExactStampsInRow.holds Try.pinned (OpenSpec.ofChange fnExactStampsInWrong)

/-- 'laws.FnExactStampsOut': WHATEVER THE INPUT: true; the input reads as it did. -/
def fnExactStampsOutSpec : ChangeSpec := { name := "fnExactStampsOut", fn := fun _ => fun
  | [d] => { results := [.lit (.bool true)], args := [d] }
  | _ => none }
def fnExactStampsOutRow : OpenClaim := { program := "ytegkmjifphcojaa", sum := "172125b30165e006a01d61e5421efca35f6a669d00f9d75a83889edf8ce8c305", func := "loop.example/g01062/laws.FnExactStampsOut", spec := "fnExactStampsOut", unfollowed := true, recurses := true, apart := false }
def FnExactStampsOutSaid : Prop := fnExactStampsOutRow.holds Try.pinned (OpenSpec.ofChange fnExactStampsOutSpec)

/-- ITS FALSE NEIGHBOUR: 'it returns false'. Refute it at one input. -/
def fnExactStampsOutWrong : ChangeSpec := { name := "fnExactStampsOut", fn := fun _ => fun
  | [d] => { results := [.lit (.bool false)], args := [d] }
  | _ => none }
def FnExactStampsOutWrongFalsely : Prop := fnExactStampsOutRow.holds Try.pinned (OpenSpec.ofChange fnExactStampsOutWrong)

/-- 'laws.FnExactBusiestPerson': WHATEVER THE INPUT: true; the input reads as it did. -/
def fnExactBusiestPersonSpec : ChangeSpec := { name := "fnExactBusiestPerson", fn := fun _ => fun
  | [d] => { results := [.lit (.bool true)], args := [d] }
  | _ => none }
def fnExactBusiestPersonRow : OpenClaim := { program := "ytegkmjifphcojaa", sum := "172125b30165e006a01d61e5421efca35f6a669d00f9d75a83889edf8ce8c305", func := "loop.example/g01062/laws.FnExactBusiestPerson", spec := "fnExactBusiestPerson", unfollowed := true, recurses := true, apart := false }
def FnExactBusiestPersonSaid : Prop := fnExactBusiestPersonRow.holds Try.pinned (OpenSpec.ofChange fnExactBusiestPersonSpec)

/-- ITS FALSE NEIGHBOUR: 'it returns false'. Refute it at one input. -/
def fnExactBusiestPersonWrong : ChangeSpec := { name := "fnExactBusiestPerson", fn := fun _ => fun
  | [d] => { results := [.lit (.bool false)], args := [d] }
  | _ => none }
def FnExactBusiestPersonWrongFalsely : Prop := fnExactBusiestPersonRow.holds Try.pinned (OpenSpec.ofChange fnExactBusiestPersonWrong)

/-- 'laws.FnExactKindsAt': WHATEVER THE INPUT: true; the input reads as it did. -/
def fnExactKindsAtSpec : ChangeSpec := { name := "fnExactKindsAt", fn := fun _ => fun
  | [d1, d2] => { results := [.lit (.bool true)], args := [d1, d2] }
  | _ => none }
def fnExactKindsAtRow : OpenClaim := { program := "ytegkmjifphcojaa", sum := "172125b30165e006a01d61e5421efca35f6a669d00f9d75a83889edf8ce8c305", func := "loop.example/g01062/laws.FnExactKindsAt", spec := "fnExactKindsAt", unfollowed := true, recurses := true, apart := false }
def FnExactKindsAtSaid : Prop := fnExactKindsAtRow.holds Try.pinned (OpenSpec.ofChange fnExactKindsAtSpec)

/-- ITS FALSE NEIGHBOUR: 'it returns false'. Refute it at one input. -/
def fnExactKindsAtWrong : ChangeSpec := { name := "fnExactKindsAt", fn := fun _ => fun
  | [d1, d2] => { results := [.lit (.bool false)], args := [d1, d2] }
  | _ => none }
def FnExactKindsAtWrongFalsely : Prop := fnExactKindsAtRow.holds Try.pinned (OpenSpec.ofChange fnExactKindsAtWrong)

/-- 'laws.FnExactPersonsWith': WHATEVER THE INPUT: true; the input reads as it did. -/
def fnExactPersonsWithSpec : ChangeSpec := { name := "fnExactPersonsWith", fn := fun _ => fun
  | [d1, d2] => { results := [.lit (.bool true)], args := [d1, d2] }
  | _ => none }
def fnExactPersonsWithRow : OpenClaim := { program := "ytegkmjifphcojaa", sum := "172125b30165e006a01d61e5421efca35f6a669d00f9d75a83889edf8ce8c305", func := "loop.example/g01062/laws.FnExactPersonsWith", spec := "fnExactPersonsWith", unfollowed := true, recurses := true, apart := false }
def FnExactPersonsWithSaid : Prop := fnExactPersonsWithRow.holds Try.pinned (OpenSpec.ofChange fnExactPersonsWithSpec)

/-- ITS FALSE NEIGHBOUR: 'it returns false'. Refute it at one input. -/
def fnExactPersonsWithWrong : ChangeSpec := { name := "fnExactPersonsWith", fn := fun _ => fun
  | [d1, d2] => { results := [.lit (.bool false)], args := [d1, d2] }
  | _ => none }
def FnExactPersonsWithWrongFalsely : Prop := fnExactPersonsWithRow.holds Try.pinned (OpenSpec.ofChange fnExactPersonsWithWrong)

/-- 'laws.FnExactNewConsole': WHATEVER THE INPUT: true; the input reads as it did. -/
def fnExactNewConsoleSpec : ChangeSpec := { name := "fnExactNewConsole", fn := fun _ => fun
  | [d] => { results := [.lit (.bool true)], args := [d] }
  | _ => none }
def fnExactNewConsoleRow : OpenClaim := { program := "ytegkmjifphcojaa", sum := "172125b30165e006a01d61e5421efca35f6a669d00f9d75a83889edf8ce8c305", func := "loop.example/g01062/laws.FnExactNewConsole", spec := "fnExactNewConsole", apart := false }
def FnExactNewConsoleSaid : Prop := fnExactNewConsoleRow.holds Try.pinned (OpenSpec.ofChange fnExactNewConsoleSpec)

/-- ITS FALSE NEIGHBOUR: 'it returns false'. Refute it at one input. -/
def fnExactNewConsoleWrong : ChangeSpec := { name := "fnExactNewConsole", fn := fun _ => fun
  | [d] => { results := [.lit (.bool false)], args := [d] }
  | _ => none }
def FnExactNewConsoleWrongFalsely : Prop := fnExactNewConsoleRow.holds Try.pinned (OpenSpec.ofChange fnExactNewConsoleWrong)

/-- 'laws.FnOffices': WHATEVER THE INPUT: true; the input reads as it did. -/
def fnOfficesSpec : ChangeSpec := { name := "fnOffices", fn := fun _ => fun
  | [d] => { results := [.lit (.bool true)], args := [d] }
  | _ => none }
def fnOfficesRow : OpenClaim := { program := "ytegkmjifphcojaa", sum := "172125b30165e006a01d61e5421efca35f6a669d00f9d75a83889edf8ce8c305", func := "loop.example/g01062/laws.FnOffices", spec := "fnOffices", inPlace := ["slices.overlaps[loop.example/g01062/impl.Tray]", "slices.overlaps[loop.example/g01062/impl.Outing]"], unfollowed := true, recurses := true, apart := false }
def FnOfficesSaid : Prop := fnOfficesRow.holds Try.pinned (OpenSpec.ofChange fnOfficesSpec)

/-- ITS FALSE NEIGHBOUR: 'it returns false'. Refute it at one input. -/
def fnOfficesWrong : ChangeSpec := { name := "fnOffices", fn := fun _ => fun
  | [d] => { results := [.lit (.bool false)], args := [d] }
  | _ => none }
def FnOfficesWrongFalsely : Prop := fnOfficesRow.holds Try.pinned (OpenSpec.ofChange fnOfficesWrong)

/-- 'laws.FnExactStepOffice': WHATEVER THE INPUT: true; the input reads as it did. -/
def fnExactStepOfficeSpec : ChangeSpec := { name := "fnExactStepOffice", fn := fun _ => fun
  | [d1, d2] => { results := [.lit (.bool true)], args := [d1, d2] }
  | _ => none }
def fnExactStepOfficeRow : OpenClaim := { program := "ytegkmjifphcojaa", sum := "172125b30165e006a01d61e5421efca35f6a669d00f9d75a83889edf8ce8c305", func := "loop.example/g01062/laws.FnExactStepOffice", spec := "fnExactStepOffice", inPlace := ["slices.overlaps[loop.example/g01062/impl.Tray]", "slices.overlaps[loop.example/g01062/impl.Outing]"], unfollowed := true, recurses := true, apart := false }
def FnExactStepOfficeSaid : Prop := fnExactStepOfficeRow.holds Try.pinned (OpenSpec.ofChange fnExactStepOfficeSpec)

/-- ITS FALSE NEIGHBOUR: 'it returns false'. Refute it at one input. -/
def fnExactStepOfficeWrong : ChangeSpec := { name := "fnExactStepOffice", fn := fun _ => fun
  | [d1, d2] => { results := [.lit (.bool false)], args := [d1, d2] }
  | _ => none }
def FnExactStepOfficeWrongFalsely : Prop := fnExactStepOfficeRow.holds Try.pinned (OpenSpec.ofChange fnExactStepOfficeWrong)

/-- 'laws.FnExactRunOffice': WHATEVER THE INPUT: true; the input reads as it did. -/
def fnExactRunOfficeSpec : ChangeSpec := { name := "fnExactRunOffice", fn := fun _ => fun
  | [d1, d2] => { results := [.lit (.bool true)], args := [d1, d2] }
  | _ => none }
def fnExactRunOfficeRow : OpenClaim := { program := "ytegkmjifphcojaa", sum := "172125b30165e006a01d61e5421efca35f6a669d00f9d75a83889edf8ce8c305", func := "loop.example/g01062/laws.FnExactRunOffice", spec := "fnExactRunOffice", inPlace := ["slices.overlaps[loop.example/g01062/impl.Tray]", "slices.overlaps[loop.example/g01062/impl.Outing]"], unfollowed := true, recurses := true, apart := false }
def FnExactRunOfficeSaid : Prop := fnExactRunOfficeRow.holds Try.pinned (OpenSpec.ofChange fnExactRunOfficeSpec)

/-- ITS FALSE NEIGHBOUR: 'it returns false'. Refute it at one input. -/
def fnExactRunOfficeWrong : ChangeSpec := { name := "fnExactRunOffice", fn := fun _ => fun
  | [d1, d2] => { results := [.lit (.bool false)], args := [d1, d2] }
  | _ => none }
def FnExactRunOfficeWrongFalsely : Prop := fnExactRunOfficeRow.holds Try.pinned (OpenSpec.ofChange fnExactRunOfficeWrong)

/-- 'laws.FnExactRunAuction': WHATEVER THE INPUT: true; the input reads as it did. -/
def fnExactRunAuctionSpec : ChangeSpec := { name := "fnExactRunAuction", fn := fun _ => fun
  | [d1, d2] => { results := [.lit (.bool true)], args := [d1, d2] }
  | _ => none }
def fnExactRunAuctionRow : OpenClaim := { program := "ytegkmjifphcojaa", sum := "172125b30165e006a01d61e5421efca35f6a669d00f9d75a83889edf8ce8c305", func := "loop.example/g01062/laws.FnExactRunAuction", spec := "fnExactRunAuction", inPlace := ["slices.overlaps[loop.example/g01062/impl.SaleLot]"], unfollowed := true, recurses := true, apart := false }
def FnExactRunAuctionSaid : Prop := fnExactRunAuctionRow.holds Try.pinned (OpenSpec.ofChange fnExactRunAuctionSpec)

/-- ITS FALSE NEIGHBOUR: 'it returns false'. Refute it at one input. -/
def fnExactRunAuctionWrong : ChangeSpec := { name := "fnExactRunAuction", fn := fun _ => fun
  | [d1, d2] => { results := [.lit (.bool false)], args := [d1, d2] }
  | _ => none }
def FnExactRunAuctionWrongFalsely : Prop := fnExactRunAuctionRow.holds Try.pinned (OpenSpec.ofChange fnExactRunAuctionWrong)

/- THE SECOND FORM. 'bulk': how many values and letters a reading holds, each counted each time it is reached (what is shared counts as often as it is met; a slice's spare places count too). A statement '..UptoSaid' is the law's where the arguments, and the package variables that the reading takes, are together of bulk at most 1048576: NARROWER than '..Said'. Prove '..Said' where nothing that the law and all that it calls make is longer than what came in: it says more and counts as full. Else prove '..UptoSaid'. A law counts once. -/
mutual
def uptoBulk {H : Type} : DataW H → Nat
  | .lit (.string bytes) => bytes.length + 1
  | .lit _ => 1
  | .nil => 1
  | .ptr d => uptoBulk d + 1
  | .slice elems spare => uptoBulkAll elems + uptoBulkAll spare + 1
  | .agg parts => uptoBulkAll parts + 1
  | .iface _ d => uptoBulk d + 1
  | .map entries => uptoBulkEntries entries + 1
  | .held _ => 1
def uptoBulkAll {H : Type} : List (DataW H) → Nat
  | [] => 0
  | d :: r => uptoBulk d + uptoBulkAll r
def uptoBulkEntries {H : Type} : List (Lit × DataW H) → Nat
  | [] => 0
  | x :: r => uptoBulkEntry x + uptoBulkEntries r
def uptoBulkEntry {H : Type} : Lit × DataW H → Nat
  | (.string bytes, d) => bytes.length + uptoBulk d + 1
  | (_, d) => uptoBulk d + 1
 end
def uptoSmall : (H : Type) → List (DataW H) → Bool := fun _ ds => decide (uptoBulkAll ds ≤ 1048576)
def OpenSpec.upto (s : _root_.Go.ChangeSpec) : _root_.Go.OpenSpec := { _root_.Go.OpenSpec.ofChange s with cond := some uptoSmall }

/-- 'laws.FnExactIsOffice', WHERE WHAT IT READS IS OF BULK AT MOST 1048576: true; the input reads as it did. -/
def fnExactIsOfficeUptoRow : OpenClaim := { program := "ytegkmjifphcojaa", sum := "172125b30165e006a01d61e5421efca35f6a669d00f9d75a83889edf8ce8c305", func := "loop.example/g01062/laws.FnExactIsOffice", spec := "fnExactIsOffice", unfollowed := true, recurses := true, apart := false, narrowed := true }
def FnExactIsOfficeUptoSaid : Prop := fnExactIsOfficeUptoRow.holds Try.pinned (OpenSpec.upto fnExactIsOfficeSpec)

/-- 'laws.FnExactStampsIn', WHERE WHAT IT READS IS OF BULK AT MOST 1048576: true; the input reads as it did. -/
def fnExactStampsInUptoRow : OpenClaim := { program := "ytegkmjifphcojaa", sum := "172125b30165e006a01d61e5421efca35f6a669d00f9d75a83889edf8ce8c305", func := "loop.example/g01062/laws.FnExactStampsIn", spec := "fnExactStampsIn", unfollowed := true, recurses := true, apart := false, narrowed := true }
def FnExactStampsInUptoSaid : Prop := fnExactStampsInUptoRow.holds Try.pinned (OpenSpec.upto fnExactStampsInSpec)

/-- 'laws.FnExactStampsOut', WHERE WHAT IT READS IS OF BULK AT MOST 1048576: true; the input reads as it did. -/
def fnExactStampsOutUptoRow : OpenClaim := { program := "ytegkmjifphcojaa", sum := "172125b30165e006a01d61e5421efca35f6a669d00f9d75a83889edf8ce8c305", func := "loop.example/g01062/laws.FnExactStampsOut", spec := "fnExactStampsOut", unfollowed := true, recurses := true, apart := false, narrowed := true }
def FnExactStampsOutUptoSaid : Prop := fnExactStampsOutUptoRow.holds Try.pinned (OpenSpec.upto fnExactStampsOutSpec)

/-- 'laws.FnExactBusiestPerson', WHERE WHAT IT READS IS OF BULK AT MOST 1048576: true; the input reads as it did. -/
def fnExactBusiestPersonUptoRow : OpenClaim := { program := "ytegkmjifphcojaa", sum := "172125b30165e006a01d61e5421efca35f6a669d00f9d75a83889edf8ce8c305", func := "loop.example/g01062/laws.FnExactBusiestPerson", spec := "fnExactBusiestPerson", unfollowed := true, recurses := true, apart := false, narrowed := true }
def FnExactBusiestPersonUptoSaid : Prop := fnExactBusiestPersonUptoRow.holds Try.pinned (OpenSpec.upto fnExactBusiestPersonSpec)

/-- 'laws.FnExactKindsAt', WHERE WHAT IT READS IS OF BULK AT MOST 1048576: true; the input reads as it did. -/
def fnExactKindsAtUptoRow : OpenClaim := { program := "ytegkmjifphcojaa", sum := "172125b30165e006a01d61e5421efca35f6a669d00f9d75a83889edf8ce8c305", func := "loop.example/g01062/laws.FnExactKindsAt", spec := "fnExactKindsAt", unfollowed := true, recurses := true, apart := false, narrowed := true }
def FnExactKindsAtUptoSaid : Prop := fnExactKindsAtUptoRow.holds Try.pinned (OpenSpec.upto fnExactKindsAtSpec)

/-- 'laws.FnExactPersonsWith', WHERE WHAT IT READS IS OF BULK AT MOST 1048576: true; the input reads as it did. -/
def fnExactPersonsWithUptoRow : OpenClaim := { program := "ytegkmjifphcojaa", sum := "172125b30165e006a01d61e5421efca35f6a669d00f9d75a83889edf8ce8c305", func := "loop.example/g01062/laws.FnExactPersonsWith", spec := "fnExactPersonsWith", unfollowed := true, recurses := true, apart := false, narrowed := true }
def FnExactPersonsWithUptoSaid : Prop := fnExactPersonsWithUptoRow.holds Try.pinned (OpenSpec.upto fnExactPersonsWithSpec)

/-- 'laws.FnExactNewConsole', WHERE WHAT IT READS IS OF BULK AT MOST 1048576: true; the input reads as it did. -/
def fnExactNewConsoleUptoRow : OpenClaim := { program := "ytegkmjifphcojaa", sum := "172125b30165e006a01d61e5421efca35f6a669d00f9d75a83889edf8ce8c305", func := "loop.example/g01062/laws.FnExactNewConsole", spec := "fnExactNewConsole", apart := false, narrowed := true }
def FnExactNewConsoleUptoSaid : Prop := fnExactNewConsoleUptoRow.holds Try.pinned (OpenSpec.upto fnExactNewConsoleSpec)

/-- 'laws.FnOffices', WHERE WHAT IT READS IS OF BULK AT MOST 1048576: true; the input reads as it did. -/
def fnOfficesUptoRow : OpenClaim := { program := "ytegkmjifphcojaa", sum := "172125b30165e006a01d61e5421efca35f6a669d00f9d75a83889edf8ce8c305", func := "loop.example/g01062/laws.FnOffices", spec := "fnOffices", inPlace := ["slices.overlaps[loop.example/g01062/impl.Tray]", "slices.overlaps[loop.example/g01062/impl.Outing]"], unfollowed := true, recurses := true, apart := false, narrowed := true }
def FnOfficesUptoSaid : Prop := fnOfficesUptoRow.holds Try.pinned (OpenSpec.upto fnOfficesSpec)

/-- 'laws.FnExactStepOffice', WHERE WHAT IT READS IS OF BULK AT MOST 1048576: true; the input reads as it did. -/
def fnExactStepOfficeUptoRow : OpenClaim := { program := "ytegkmjifphcojaa", sum := "172125b30165e006a01d61e5421efca35f6a669d00f9d75a83889edf8ce8c305", func := "loop.example/g01062/laws.FnExactStepOffice", spec := "fnExactStepOffice", inPlace := ["slices.overlaps[loop.example/g01062/impl.Tray]", "slices.overlaps[loop.example/g01062/impl.Outing]"], unfollowed := true, recurses := true, apart := false, narrowed := true }
def FnExactStepOfficeUptoSaid : Prop := fnExactStepOfficeUptoRow.holds Try.pinned (OpenSpec.upto fnExactStepOfficeSpec)

/-- 'laws.FnExactRunOffice', WHERE WHAT IT READS IS OF BULK AT MOST 1048576: true; the input reads as it did. -/
def fnExactRunOfficeUptoRow : OpenClaim := { program := "ytegkmjifphcojaa", sum := "172125b30165e006a01d61e5421efca35f6a669d00f9d75a83889edf8ce8c305", func := "loop.example/g01062/laws.FnExactRunOffice", spec := "fnExactRunOffice", inPlace := ["slices.overlaps[loop.example/g01062/impl.Tray]", "slices.overlaps[loop.example/g01062/impl.Outing]"], unfollowed := true, recurses := true, apart := false, narrowed := true }
def FnExactRunOfficeUptoSaid : Prop := fnExactRunOfficeUptoRow.holds Try.pinned (OpenSpec.upto fnExactRunOfficeSpec)

/-- 'laws.FnExactRunAuction', WHERE WHAT IT READS IS OF BULK AT MOST 1048576: true; the input reads as it did. -/
def fnExactRunAuctionUptoRow : OpenClaim := { program := "ytegkmjifphcojaa", sum := "172125b30165e006a01d61e5421efca35f6a669d00f9d75a83889edf8ce8c305", func := "loop.example/g01062/laws.FnExactRunAuction", spec := "fnExactRunAuction", inPlace := ["slices.overlaps[loop.example/g01062/impl.SaleLot]"], unfollowed := true, recurses := true, apart := false, narrowed := true }
def FnExactRunAuctionUptoSaid : Prop := fnExactRunAuctionUptoRow.holds Try.pinned (OpenSpec.upto fnExactRunAuctionSpec)

end Rows
end Go.Proofs.Ytegkmjifphcojaa
