/-
  No cell of these rows narrows 'for every input' (looked for: loops, veiled, ifaces, maps, wideKeys, modest, calm, conditions, laid).
  DERIVED. THE GIVEN ROWS OF THIS SEAT. 2 by the template 'for every input the law returns true; each argument reads behind the call as it read before'; 0 by the template 'total and deterministic' (their statements: YtpjfidmapnnbkaaTotals.lean).
  GIVEN WITH THE SEED: the statements are not yours to turn. If you find one false, say at which input.
  Laid BY PROGRAM, IN A SANDBOX (cutbox-rows.mjs): the forced cells as the released guide's own fill.sh prints them over the translation 8986b870218fc14c… (all of the seat's roots in one cut). By AI agents, Wed Nov 11 2026. No macro, syntax, notation, axiom, sorry.
-/
import Derived.Test.YtpjfidmapnnbkaaChecked
import GoSem.Claim
import GoSem.ClaimJoined
import GoSem.ClaimMapViews
import Derived.JoinedTies
import Derived.KernelRfl
namespace Go.Proofs.Ytpjfidmapnnbkaa
/- THE CELL 'sum', in the pinned program and in every row, IS THE sha256 OF THE DUMP (.gsa) THAT YtpjfidmapnnbkaaProg.lean LOADS. Nothing in Lean hashes anything: it is a label: what it is worth is what the hold of that sum in a sandbox is worth. -/
noncomputable def Try.pinned : Pinned := { name := "ytpjfidmapnnbkaa", sum := "8986b870218fc14c6d029abc81742400f12df6ee624bf91b98cb28c6b36fd12e", checked := Try.checked }
namespace Rows
def none {H : Type} : Left H := { results := [], args := [] }

/-- 'laws.FnExactJoinRows': WHATEVER THE INPUT: true; the input reads as it did. -/
def fnExactJoinRowsSpec : ChangeSpec := { name := "fnExactJoinRows", fn := fun _ => fun
  | [d1, d2] => { results := [.lit (.bool true)], args := [d1, d2] }
  | _ => none }
def fnExactJoinRowsRow : OpenClaim := { program := "ytpjfidmapnnbkaa", sum := "8986b870218fc14c6d029abc81742400f12df6ee624bf91b98cb28c6b36fd12e", func := "loop.example/g01062/laws.FnExactJoinRows", spec := "fnExactJoinRows", inPlace := ["slices.overlaps[loop.example/g01062/impl.OfficeRow]"], unfollowed := true, recurses := true, apart := false }
def FnExactJoinRowsSaid : Prop := fnExactJoinRowsRow.holds Try.pinned (OpenSpec.ofChange fnExactJoinRowsSpec)

/-- ITS FALSE NEIGHBOUR: 'it returns false'. Refute it at one input. -/
def fnExactJoinRowsWrong : ChangeSpec := { name := "fnExactJoinRows", fn := fun _ => fun
  | [d1, d2] => { results := [.lit (.bool false)], args := [d1, d2] }
  | _ => none }
def FnExactJoinRowsWrongFalsely : Prop := fnExactJoinRowsRow.holds Try.pinned (OpenSpec.ofChange fnExactJoinRowsWrong)

/-- 'laws.FnStock': WHATEVER THE INPUT: true; the input reads as it did. -/
def fnStockSpec : ChangeSpec := { name := "fnStock", fn := fun _ => fun
  | [d] => { results := [.lit (.bool true)], args := [d] }
  | _ => none }
def fnStockRow : OpenClaim := { program := "ytpjfidmapnnbkaa", sum := "8986b870218fc14c6d029abc81742400f12df6ee624bf91b98cb28c6b36fd12e", func := "loop.example/g01062/laws.FnStock", spec := "fnStock", apart := false }
def FnStockSaid : Prop := fnStockRow.holds Try.pinned (OpenSpec.ofChange fnStockSpec)

/-- ITS FALSE NEIGHBOUR: 'it returns false'. Refute it at one input. -/
def fnStockWrong : ChangeSpec := { name := "fnStock", fn := fun _ => fun
  | [d] => { results := [.lit (.bool false)], args := [d] }
  | _ => none }
def FnStockWrongFalsely : Prop := fnStockRow.holds Try.pinned (OpenSpec.ofChange fnStockWrong)

/- THE SECOND FORM. 'bulk': how many values and letters a reading holds, each counted each time it is reached (what is shared counts as often as it is met; a slice's spare places count too). A statement '..UptoSaid' is the law's where the arguments, and the package variables that the reading takes, are together of bulk at most 1048576: NARROWER than '..Said'. Prove '..Said' where nothing that the law and all that it calls make is longer than what came in: it says more and counts as full. Else prove '..UptoSaid'. A law counts once. -/
mutual
def uptoBulk {H : Type} : DataW H → Nat
  | .lit (.string bytes) => bytes.length + 1
  | .lit _ => 1
  | .nil => 1
  | .ptr d => uptoBulk d + 1
  | .slice elems spare => uptoBulkAll elems + uptoBulkAll spare + 1
  | .agg parts => uptoBulkAll parts + 1
  | .iface _ d => uptoBulk d + 1
  | .map entries => uptoBulkEntries entries + 1
  | .held _ => 1
def uptoBulkAll {H : Type} : List (DataW H) → Nat
  | [] => 0
  | d :: r => uptoBulk d + uptoBulkAll r
def uptoBulkEntries {H : Type} : List (Lit × DataW H) → Nat
  | [] => 0
  | x :: r => uptoBulkEntry x + uptoBulkEntries r
def uptoBulkEntry {H : Type} : Lit × DataW H → Nat
  | (.string bytes, d) => bytes.length + uptoBulk d + 1
  | (_, d) => uptoBulk d + 1
 end
def uptoSmall : (H : Type) → List (DataW H) → Bool := fun _ ds => decide (uptoBulkAll ds ≤ 1048576)
def OpenSpec.upto (s : _root_.Go.ChangeSpec) : _root_.Go.OpenSpec := { _root_.Go.OpenSpec.ofChange s with cond := some uptoSmall }

/-- 'laws.FnExactJoinRows', WHERE WHAT IT READS IS OF BULK AT MOST 1048576: true; the input reads as it did. -/
def fnExactJoinRowsUptoRow : OpenClaim := { program := "ytpjfidmapnnbkaa", sum := "8986b870218fc14c6d029abc81742400f12df6ee624bf91b98cb28c6b36fd12e", func := "loop.example/g01062/laws.FnExactJoinRows", spec := "fnExactJoinRows", inPlace := ["slices.overlaps[loop.example/g01062/impl.OfficeRow]"], unfollowed := true, recurses := true, apart := false, narrowed := true }
def FnExactJoinRowsUptoSaid : Prop := fnExactJoinRowsUptoRow.holds Try.pinned (OpenSpec.upto fnExactJoinRowsSpec)

/-- 'laws.FnStock', WHERE WHAT IT READS IS OF BULK AT MOST 1048576: true; the input reads as it did. -/
def fnStockUptoRow : OpenClaim := { program := "ytpjfidmapnnbkaa", sum := "8986b870218fc14c6d029abc81742400f12df6ee624bf91b98cb28c6b36fd12e", func := "loop.example/g01062/laws.FnStock", spec := "fnStock", apart := false, narrowed := true }
def FnStockUptoSaid : Prop := fnStockUptoRow.holds Try.pinned (OpenSpec.upto fnStockSpec)

end Rows
end Go.Proofs.Ytpjfidmapnnbkaa
