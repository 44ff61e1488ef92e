/-
  No cell of these rows narrows 'for every input' (looked for: loops, veiled, ifaces, maps, wideKeys, modest, calm, conditions, laid).
  DERIVED. THE GIVEN ROWS OF THIS SEAT. 10 by the template 'for every input the law returns true; each argument reads behind the call as it read before'; 0 by the template 'total and deterministic' (their statements: YtgdjdejfegkjdaaTotals.lean).
  GIVEN WITH THE SEED: the statements are not yours to turn. If you find one false, say at which input.
  Laid BY PROGRAM, IN A SANDBOX (cutbox-rows.mjs): the forced cells as the released guide's own fill.sh prints them over the translation 732a8e8819bb4a47… (all of the seat's roots in one cut). By AI agents, Wed Nov 11 2026. No macro, syntax, notation, axiom, sorry.
-/
import Derived.Test.YtgdjdejfegkjdaaChecked
import GoSem.Claim
import GoSem.ClaimJoined
import GoSem.ClaimMapViews
import Derived.JoinedTies
import Derived.KernelRfl
namespace Go.Proofs.Ytgdjdejfegkjdaa
/- THE CELL 'sum', in the pinned program and in every row, IS THE sha256 OF THE DUMP (.gsa) THAT YtgdjdejfegkjdaaProg.lean LOADS. Nothing in Lean hashes anything: it is a label: what it is worth is what the hold of that sum in a sandbox is worth. -/
noncomputable def Try.pinned : Pinned := { name := "ytgdjdejfegkjdaa", sum := "732a8e8819bb4a47ecfa2142d78f4eb95cf37500004fa2f37a5025a1757f0df3", checked := Try.checked }
namespace Rows
def none {H : Type} : Left H := { results := [], args := [] }

/-- 'laws.FnExactIsOfficeRow': WHATEVER THE INPUT: true; the input reads as it did. -/
def fnExactIsOfficeRowSpec : ChangeSpec := { name := "fnExactIsOfficeRow", fn := fun _ => fun
  | [d] => { results := [.lit (.bool true)], args := [d] }
  | _ => none }
def fnExactIsOfficeRowRow : OpenClaim := { program := "ytgdjdejfegkjdaa", sum := "732a8e8819bb4a47ecfa2142d78f4eb95cf37500004fa2f37a5025a1757f0df3", func := "loop.example/g01062/laws.FnExactIsOfficeRow", spec := "fnExactIsOfficeRow", apart := false }
def FnExactIsOfficeRowSaid : Prop := fnExactIsOfficeRowRow.holds Try.pinned (OpenSpec.ofChange fnExactIsOfficeRowSpec)

/-- ITS FALSE NEIGHBOUR: 'it returns false'. Refute it at one input. -/
def fnExactIsOfficeRowWrong : ChangeSpec := { name := "fnExactIsOfficeRow", fn := fun _ => fun
  | [d] => { results := [.lit (.bool false)], args := [d] }
  | _ => none }
def FnExactIsOfficeRowWrongFalsely : Prop := fnExactIsOfficeRowRow.holds Try.pinned (OpenSpec.ofChange fnExactIsOfficeRowWrong)

/-- 'laws.FnExactAreOfficeRows': WHATEVER THE INPUT: true; the input reads as it did. -/
def fnExactAreOfficeRowsSpec : ChangeSpec := { name := "fnExactAreOfficeRows", fn := fun _ => fun
  | [d] => { results := [.lit (.bool true)], args := [d] }
  | _ => none }
def fnExactAreOfficeRowsRow : OpenClaim := { program := "ytgdjdejfegkjdaa", sum := "732a8e8819bb4a47ecfa2142d78f4eb95cf37500004fa2f37a5025a1757f0df3", func := "loop.example/g01062/laws.FnExactAreOfficeRows", spec := "fnExactAreOfficeRows", apart := false }
def FnExactAreOfficeRowsSaid : Prop := fnExactAreOfficeRowsRow.holds Try.pinned (OpenSpec.ofChange fnExactAreOfficeRowsSpec)

/-- ITS FALSE NEIGHBOUR: 'it returns false'. Refute it at one input. -/
def fnExactAreOfficeRowsWrong : ChangeSpec := { name := "fnExactAreOfficeRows", fn := fun _ => fun
  | [d] => { results := [.lit (.bool false)], args := [d] }
  | _ => none }
def FnExactAreOfficeRowsWrongFalsely : Prop := fnExactAreOfficeRowsRow.holds Try.pinned (OpenSpec.ofChange fnExactAreOfficeRowsWrong)

/-- 'laws.FnExactBestMonth': WHATEVER THE INPUT: true; the input reads as it did. -/
def fnExactBestMonthSpec : ChangeSpec := { name := "fnExactBestMonth", fn := fun _ => fun
  | [d] => { results := [.lit (.bool true)], args := [d] }
  | _ => none }
def fnExactBestMonthRow : OpenClaim := { program := "ytgdjdejfegkjdaa", sum := "732a8e8819bb4a47ecfa2142d78f4eb95cf37500004fa2f37a5025a1757f0df3", func := "loop.example/g01062/laws.FnExactBestMonth", spec := "fnExactBestMonth", apart := false }
def FnExactBestMonthSaid : Prop := fnExactBestMonthRow.holds Try.pinned (OpenSpec.ofChange fnExactBestMonthSpec)

/-- ITS FALSE NEIGHBOUR: 'it returns false'. Refute it at one input. -/
def fnExactBestMonthWrong : ChangeSpec := { name := "fnExactBestMonth", fn := fun _ => fun
  | [d] => { results := [.lit (.bool false)], args := [d] }
  | _ => none }
def FnExactBestMonthWrongFalsely : Prop := fnExactBestMonthRow.holds Try.pinned (OpenSpec.ofChange fnExactBestMonthWrong)

/-- 'laws.FnExactLeastStart': WHATEVER THE INPUT: true; the input reads as it did. -/
def fnExactLeastStartSpec : ChangeSpec := { name := "fnExactLeastStart", fn := fun _ => fun
  | [d] => { results := [.lit (.bool true)], args := [d] }
  | _ => none }
def fnExactLeastStartRow : OpenClaim := { program := "ytgdjdejfegkjdaa", sum := "732a8e8819bb4a47ecfa2142d78f4eb95cf37500004fa2f37a5025a1757f0df3", func := "loop.example/g01062/laws.FnExactLeastStart", spec := "fnExactLeastStart", apart := false }
def FnExactLeastStartSaid : Prop := fnExactLeastStartRow.holds Try.pinned (OpenSpec.ofChange fnExactLeastStartSpec)

/-- ITS FALSE NEIGHBOUR: 'it returns false'. Refute it at one input. -/
def fnExactLeastStartWrong : ChangeSpec := { name := "fnExactLeastStart", fn := fun _ => fun
  | [d] => { results := [.lit (.bool false)], args := [d] }
  | _ => none }
def FnExactLeastStartWrongFalsely : Prop := fnExactLeastStartRow.holds Try.pinned (OpenSpec.ofChange fnExactLeastStartWrong)

/-- 'laws.FnExactWorstRun': WHATEVER THE INPUT: true; the input reads as it did. -/
def fnExactWorstRunSpec : ChangeSpec := { name := "fnExactWorstRun", fn := fun _ => fun
  | [d] => { results := [.lit (.bool true)], args := [d] }
  | _ => none }
def fnExactWorstRunRow : OpenClaim := { program := "ytgdjdejfegkjdaa", sum := "732a8e8819bb4a47ecfa2142d78f4eb95cf37500004fa2f37a5025a1757f0df3", func := "loop.example/g01062/laws.FnExactWorstRun", spec := "fnExactWorstRun", apart := false }
def FnExactWorstRunSaid : Prop := fnExactWorstRunRow.holds Try.pinned (OpenSpec.ofChange fnExactWorstRunSpec)

/-- ITS FALSE NEIGHBOUR: 'it returns false'. Refute it at one input. -/
def fnExactWorstRunWrong : ChangeSpec := { name := "fnExactWorstRun", fn := fun _ => fun
  | [d] => { results := [.lit (.bool false)], args := [d] }
  | _ => none }
def FnExactWorstRunWrongFalsely : Prop := fnExactWorstRunRow.holds Try.pinned (OpenSpec.ofChange fnExactWorstRunWrong)

/-- 'laws.FnExactProfitPer': WHATEVER THE INPUT: true; the input reads as it did. -/
def fnExactProfitPerSpec : ChangeSpec := { name := "fnExactProfitPer", fn := fun _ => fun
  | [d] => { results := [.lit (.bool true)], args := [d] }
  | _ => none }
def fnExactProfitPerRow : OpenClaim := { program := "ytgdjdejfegkjdaa", sum := "732a8e8819bb4a47ecfa2142d78f4eb95cf37500004fa2f37a5025a1757f0df3", func := "loop.example/g01062/laws.FnExactProfitPer", spec := "fnExactProfitPer", apart := false }
def FnExactProfitPerSaid : Prop := fnExactProfitPerRow.holds Try.pinned (OpenSpec.ofChange fnExactProfitPerSpec)

/-- ITS FALSE NEIGHBOUR: 'it returns false'. Refute it at one input. -/
def fnExactProfitPerWrong : ChangeSpec := { name := "fnExactProfitPer", fn := fun _ => fun
  | [d] => { results := [.lit (.bool false)], args := [d] }
  | _ => none }
def FnExactProfitPerWrongFalsely : Prop := fnExactProfitPerRow.holds Try.pinned (OpenSpec.ofChange fnExactProfitPerWrong)

/-- 'laws.FnExactOfficeSums': WHATEVER THE INPUT: true; the input reads as it did. -/
def fnExactOfficeSumsSpec : ChangeSpec := { name := "fnExactOfficeSums", fn := fun _ => fun
  | [d] => { results := [.lit (.bool true)], args := [d] }
  | _ => none }
def fnExactOfficeSumsRow : OpenClaim := { program := "ytgdjdejfegkjdaa", sum := "732a8e8819bb4a47ecfa2142d78f4eb95cf37500004fa2f37a5025a1757f0df3", func := "loop.example/g01062/laws.FnExactOfficeSums", spec := "fnExactOfficeSums", apart := false }
def FnExactOfficeSumsSaid : Prop := fnExactOfficeSumsRow.holds Try.pinned (OpenSpec.ofChange fnExactOfficeSumsSpec)

/-- ITS FALSE NEIGHBOUR: 'it returns false'. Refute it at one input. -/
def fnExactOfficeSumsWrong : ChangeSpec := { name := "fnExactOfficeSums", fn := fun _ => fun
  | [d] => { results := [.lit (.bool false)], args := [d] }
  | _ => none }
def FnExactOfficeSumsWrongFalsely : Prop := fnExactOfficeSumsRow.holds Try.pinned (OpenSpec.ofChange fnExactOfficeSumsWrong)

/-- 'laws.FnExactStockAfter': WHATEVER THE INPUT: true; the input reads as it did. -/
def fnExactStockAfterSpec : ChangeSpec := { name := "fnExactStockAfter", fn := fun _ => fun
  | [d1, d2] => { results := [.lit (.bool true)], args := [d1, d2] }
  | _ => none }
def fnExactStockAfterRow : OpenClaim := { program := "ytgdjdejfegkjdaa", sum := "732a8e8819bb4a47ecfa2142d78f4eb95cf37500004fa2f37a5025a1757f0df3", func := "loop.example/g01062/laws.FnExactStockAfter", spec := "fnExactStockAfter", apart := false }
def FnExactStockAfterSaid : Prop := fnExactStockAfterRow.holds Try.pinned (OpenSpec.ofChange fnExactStockAfterSpec)

/-- ITS FALSE NEIGHBOUR: 'it returns false'. Refute it at one input. -/
def fnExactStockAfterWrong : ChangeSpec := { name := "fnExactStockAfter", fn := fun _ => fun
  | [d1, d2] => { results := [.lit (.bool false)], args := [d1, d2] }
  | _ => none }
def FnExactStockAfterWrongFalsely : Prop := fnExactStockAfterRow.holds Try.pinned (OpenSpec.ofChange fnExactStockAfterWrong)

/-- 'laws.FnExactJoinRows': WHATEVER THE INPUT: true; the input reads as it did. -/
def fnExactJoinRowsSpec : ChangeSpec := { name := "fnExactJoinRows", fn := fun _ => fun
  | [d1, d2] => { results := [.lit (.bool true)], args := [d1, d2] }
  | _ => none }
def fnExactJoinRowsRow : OpenClaim := { program := "ytgdjdejfegkjdaa", sum := "732a8e8819bb4a47ecfa2142d78f4eb95cf37500004fa2f37a5025a1757f0df3", func := "loop.example/g01062/laws.FnExactJoinRows", spec := "fnExactJoinRows", inPlace := ["slices.overlaps[loop.example/g01062/impl.OfficeRow]"], unfollowed := true, recurses := true, apart := false }
def FnExactJoinRowsSaid : Prop := fnExactJoinRowsRow.holds Try.pinned (OpenSpec.ofChange fnExactJoinRowsSpec)

/-- ITS FALSE NEIGHBOUR: 'it returns false'. Refute it at one input. -/
def fnExactJoinRowsWrong : ChangeSpec := { name := "fnExactJoinRows", fn := fun _ => fun
  | [d1, d2] => { results := [.lit (.bool false)], args := [d1, d2] }
  | _ => none }
def FnExactJoinRowsWrongFalsely : Prop := fnExactJoinRowsRow.holds Try.pinned (OpenSpec.ofChange fnExactJoinRowsWrong)

/-- 'laws.FnStock': WHATEVER THE INPUT: true; the input reads as it did. -/
def fnStockSpec : ChangeSpec := { name := "fnStock", fn := fun _ => fun
  | [d] => { results := [.lit (.bool true)], args := [d] }
  | _ => none }
def fnStockRow : OpenClaim := { program := "ytgdjdejfegkjdaa", sum := "732a8e8819bb4a47ecfa2142d78f4eb95cf37500004fa2f37a5025a1757f0df3", func := "loop.example/g01062/laws.FnStock", spec := "fnStock", apart := false }
def FnStockSaid : Prop := fnStockRow.holds Try.pinned (OpenSpec.ofChange fnStockSpec)

/-- ITS FALSE NEIGHBOUR: 'it returns false'. Refute it at one input. -/
def fnStockWrong : ChangeSpec := { name := "fnStock", fn := fun _ => fun
  | [d] => { results := [.lit (.bool false)], args := [d] }
  | _ => none }
def FnStockWrongFalsely : Prop := fnStockRow.holds Try.pinned (OpenSpec.ofChange fnStockWrong)

/- THE SECOND FORM. 'bulk': how many values and letters a reading holds, each counted each time it is reached (what is shared counts as often as it is met; a slice's spare places count too). A statement '..UptoSaid' is the law's where the arguments, and the package variables that the reading takes, are together of bulk at most 1048576: NARROWER than '..Said'. Prove '..Said' where nothing that the law and all that it calls make is longer than what came in: it says more and counts as full. Else prove '..UptoSaid'. A law counts once. -/
mutual
def uptoBulk {H : Type} : DataW H → Nat
  | .lit (.string bytes) => bytes.length + 1
  | .lit _ => 1
  | .nil => 1
  | .ptr d => uptoBulk d + 1
  | .slice elems spare => uptoBulkAll elems + uptoBulkAll spare + 1
  | .agg parts => uptoBulkAll parts + 1
  | .iface _ d => uptoBulk d + 1
  | .map entries => uptoBulkEntries entries + 1
  | .held _ => 1
def uptoBulkAll {H : Type} : List (DataW H) → Nat
  | [] => 0
  | d :: r => uptoBulk d + uptoBulkAll r
def uptoBulkEntries {H : Type} : List (Lit × DataW H) → Nat
  | [] => 0
  | x :: r => uptoBulkEntry x + uptoBulkEntries r
def uptoBulkEntry {H : Type} : Lit × DataW H → Nat
  | (.string bytes, d) => bytes.length + uptoBulk d + 1
  | (_, d) => uptoBulk d + 1
 end
def uptoSmall : (H : Type) → List (DataW H) → Bool := fun _ ds => decide (uptoBulkAll ds ≤ 1048576)
def OpenSpec.upto (s : _root_.Go.ChangeSpec) : _root_.Go.OpenSpec := { _root_.Go.OpenSpec.ofChange s with cond := some uptoSmall }

/-- 'laws.FnExactIsOfficeRow', WHERE WHAT IT READS IS OF BULK AT MOST 1048576: true; the input reads as it did. -/
def fnExactIsOfficeRowUptoRow : OpenClaim := { program := "ytgdjdejfegkjdaa", sum := "732a8e8819bb4a47ecfa2142d78f4eb95cf37500004fa2f37a5025a1757f0df3", func := "loop.example/g01062/laws.FnExactIsOfficeRow", spec := "fnExactIsOfficeRow", apart := false, narrowed := true }
def FnExactIsOfficeRowUptoSaid : Prop := fnExactIsOfficeRowUptoRow.holds Try.pinned (OpenSpec.upto fnExactIsOfficeRowSpec)

/-- 'laws.FnExactAreOfficeRows', WHERE WHAT IT READS IS OF BULK AT MOST 1048576: true; the input reads as it did. -/
def fnExactAreOfficeRowsUptoRow : OpenClaim := { program := "ytgdjdejfegkjdaa", sum := "732a8e8819bb4a47ecfa2142d78f4eb95cf37500004fa2f37a5025a1757f0df3", func := "loop.example/g01062/laws.FnExactAreOfficeRows", spec := "fnExactAreOfficeRows", apart := false, narrowed := true }
def FnExactAreOfficeRowsUptoSaid : Prop := fnExactAreOfficeRowsUptoRow.holds Try.pinned (OpenSpec.upto fnExactAreOfficeRowsSpec)

/-- 'laws.FnExactBestMonth', WHERE WHAT IT READS IS OF BULK AT MOST 1048576: true; the input reads as it did. -/
def fnExactBestMonthUptoRow : OpenClaim := { program := "ytgdjdejfegkjdaa", sum := "732a8e8819bb4a47ecfa2142d78f4eb95cf37500004fa2f37a5025a1757f0df3", func := "loop.example/g01062/laws.FnExactBestMonth", spec := "fnExactBestMonth", apart := false, narrowed := true }
def FnExactBestMonthUptoSaid : Prop := fnExactBestMonthUptoRow.holds Try.pinned (OpenSpec.upto fnExactBestMonthSpec)

/-- 'laws.FnExactLeastStart', WHERE WHAT IT READS IS OF BULK AT MOST 1048576: true; the input reads as it did. -/
def fnExactLeastStartUptoRow : OpenClaim := { program := "ytgdjdejfegkjdaa", sum := "732a8e8819bb4a47ecfa2142d78f4eb95cf37500004fa2f37a5025a1757f0df3", func := "loop.example/g01062/laws.FnExactLeastStart", spec := "fnExactLeastStart", apart := false, narrowed := true }
def FnExactLeastStartUptoSaid : Prop := fnExactLeastStartUptoRow.holds Try.pinned (OpenSpec.upto fnExactLeastStartSpec)

/-- 'laws.FnExactWorstRun', WHERE WHAT IT READS IS OF BULK AT MOST 1048576: true; the input reads as it did. -/
def fnExactWorstRunUptoRow : OpenClaim := { program := "ytgdjdejfegkjdaa", sum := "732a8e8819bb4a47ecfa2142d78f4eb95cf37500004fa2f37a5025a1757f0df3", func := "loop.example/g01062/laws.FnExactWorstRun", spec := "fnExactWorstRun", apart := false, narrowed := true }
def FnExactWorstRunUptoSaid : Prop := fnExactWorstRunUptoRow.holds Try.pinned (OpenSpec.upto fnExactWorstRunSpec)

/-- 'laws.FnExactProfitPer', WHERE WHAT IT READS IS OF BULK AT MOST 1048576: true; the input reads as it did. -/
def fnExactProfitPerUptoRow : OpenClaim := { program := "ytgdjdejfegkjdaa", sum := "732a8e8819bb4a47ecfa2142d78f4eb95cf37500004fa2f37a5025a1757f0df3", func := "loop.example/g01062/laws.FnExactProfitPer", spec := "fnExactProfitPer", apart := false, narrowed := true }
def FnExactProfitPerUptoSaid : Prop := fnExactProfitPerUptoRow.holds Try.pinned (OpenSpec.upto fnExactProfitPerSpec)

/-- 'laws.FnExactOfficeSums', WHERE WHAT IT READS IS OF BULK AT MOST 1048576: true; the input reads as it did. -/
def fnExactOfficeSumsUptoRow : OpenClaim := { program := "ytgdjdejfegkjdaa", sum := "732a8e8819bb4a47ecfa2142d78f4eb95cf37500004fa2f37a5025a1757f0df3", func := "loop.example/g01062/laws.FnExactOfficeSums", spec := "fnExactOfficeSums", apart := false, narrowed := true }
def FnExactOfficeSumsUptoSaid : Prop := fnExactOfficeSumsUptoRow.holds Try.pinned (OpenSpec.upto fnExactOfficeSumsSpec)

/-- 'laws.FnExactStockAfter', WHERE WHAT IT READS IS OF BULK AT MOST 1048576: true; the input reads as it did. -/
def fnExactStockAfterUptoRow : OpenClaim := { program := "ytgdjdejfegkjdaa", sum := "732a8e8819bb4a47ecfa2142d78f4eb95cf37500004fa2f37a5025a1757f0df3", func := "loop.example/g01062/laws.FnExactStockAfter", spec := "fnExactStockAfter", apart := false, narrowed := true }
def FnExactStockAfterUptoSaid : Prop := fnExactStockAfterUptoRow.holds Try.pinned (OpenSpec.upto fnExactStockAfterSpec)

/-- 'laws.FnExactJoinRows', WHERE WHAT IT READS IS OF BULK AT MOST 1048576: true; the input reads as it did. -/
def fnExactJoinRowsUptoRow : OpenClaim := { program := "ytgdjdejfegkjdaa", sum := "732a8e8819bb4a47ecfa2142d78f4eb95cf37500004fa2f37a5025a1757f0df3", func := "loop.example/g01062/laws.FnExactJoinRows", spec := "fnExactJoinRows", inPlace := ["slices.overlaps[loop.example/g01062/impl.OfficeRow]"], unfollowed := true, recurses := true, apart := false, narrowed := true }
def FnExactJoinRowsUptoSaid : Prop := fnExactJoinRowsUptoRow.holds Try.pinned (OpenSpec.upto fnExactJoinRowsSpec)

/-- 'laws.FnStock', WHERE WHAT IT READS IS OF BULK AT MOST 1048576: true; the input reads as it did. -/
def fnStockUptoRow : OpenClaim := { program := "ytgdjdejfegkjdaa", sum := "732a8e8819bb4a47ecfa2142d78f4eb95cf37500004fa2f37a5025a1757f0df3", func := "loop.example/g01062/laws.FnStock", spec := "fnStock", apart := false, narrowed := true }
def FnStockUptoSaid : Prop := fnStockUptoRow.holds Try.pinned (OpenSpec.upto fnStockSpec)

end Rows
end Go.Proofs.Ytgdjdejfegkjdaa
