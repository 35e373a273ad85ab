/-
  No cell of these rows narrows 'for every input' (looked for: loops, veiled, ifaces, maps, wideKeys, modest, calm, conditions, laid).
  DERIVED. THE GIVEN ROWS OF THIS SEAT. 3 by the template 'for every input the law returns true; each argument reads behind the call as it read before'; 0 by the template 'total and deterministic' (their statements: YtemnkfigjpphgaaTotals.lean).
  GIVEN WITH THE SEED: the statements are not yours to turn. If you find one false, say at which input.
  Laid BY PROGRAM, IN A SANDBOX (cutbox-rows.mjs): the forced cells as the released guide's own fill.sh prints them over the translation 37ccadffcc27aece… (all of the seat's roots in one cut). By AI agents, Wed Nov 11 2026. No macro, syntax, notation, axiom, sorry.
-/
import Derived.Test.YtemnkfigjpphgaaChecked
import GoSem.Claim
import GoSem.ClaimJoined
import GoSem.ClaimMapViews
import Derived.JoinedTies
import Derived.KernelRfl
namespace Go.Proofs.Ytemnkfigjpphgaa
/- THE CELL 'sum', in the pinned program and in every row, IS THE sha256 OF THE DUMP (.gsa) THAT YtemnkfigjpphgaaProg.lean LOADS. Nothing in Lean hashes anything: it is a label: what it is worth is what the hold of that sum in a sandbox is worth. -/
noncomputable def Try.pinned : Pinned := { name := "ytemnkfigjpphgaa", sum := "37ccadffcc27aeceb60eaf1c55ff743d316c441c33210e2eef05ae7aec5319d1", checked := Try.checked }
namespace Rows
def none {H : Type} : Left H := { results := [], args := [] }

/-- 'laws.FnPellSolutions': WHATEVER THE INPUT: true; the input reads as it did. -/
def fnPellSolutionsSpec : ChangeSpec := { name := "fnPellSolutions", fn := fun _ => fun
  | [d1, d2] => { results := [.lit (.bool true)], args := [d1, d2] }
  | _ => none }
def fnPellSolutionsRow : OpenClaim := { program := "ytemnkfigjpphgaa", sum := "37ccadffcc27aeceb60eaf1c55ff743d316c441c33210e2eef05ae7aec5319d1", func := "loop.example/g01066/laws.FnPellSolutions", spec := "fnPellSolutions", inPlace := ["math.sqrt"], apart := false }
def FnPellSolutionsSaid : Prop := fnPellSolutionsRow.holds Try.pinned (OpenSpec.ofChange fnPellSolutionsSpec)

/-- ITS FALSE NEIGHBOUR: 'it returns false'. Refute it at one input. -/
def fnPellSolutionsWrong : ChangeSpec := { name := "fnPellSolutions", fn := fun _ => fun
  | [d1, d2] => { results := [.lit (.bool false)], args := [d1, d2] }
  | _ => none }
def FnPellSolutionsWrongFalsely : Prop := fnPellSolutionsRow.holds Try.pinned (OpenSpec.ofChange fnPellSolutionsWrong)

/-- 'laws.FnCycleMatrices': WHATEVER THE INPUT: true; the input reads as it did. -/
def fnCycleMatricesSpec : ChangeSpec := { name := "fnCycleMatrices", fn := fun _ => fun
  | [d1, d2] => { results := [.lit (.bool true)], args := [d1, d2] }
  | _ => none }
def fnCycleMatricesRow : OpenClaim := { program := "ytemnkfigjpphgaa", sum := "37ccadffcc27aeceb60eaf1c55ff743d316c441c33210e2eef05ae7aec5319d1", func := "loop.example/g01066/laws.FnCycleMatrices", spec := "fnCycleMatrices", apart := false }
def FnCycleMatricesSaid : Prop := fnCycleMatricesRow.holds Try.pinned (OpenSpec.ofChange fnCycleMatricesSpec)

/-- ITS FALSE NEIGHBOUR: 'it returns false'. Refute it at one input. -/
def fnCycleMatricesWrong : ChangeSpec := { name := "fnCycleMatrices", fn := fun _ => fun
  | [d1, d2] => { results := [.lit (.bool false)], args := [d1, d2] }
  | _ => none }
def FnCycleMatricesWrongFalsely : Prop := fnCycleMatricesRow.holds Try.pinned (OpenSpec.ofChange fnCycleMatricesWrong)

/-- 'laws.FnUnits': WHATEVER THE INPUT: true; the input reads as it did. -/
def fnUnitsSpec : ChangeSpec := { name := "fnUnits", fn := fun _ => fun
  | [d1, d2] => { results := [.lit (.bool true)], args := [d1, d2] }
  | _ => none }
def fnUnitsRow : OpenClaim := { program := "ytemnkfigjpphgaa", sum := "37ccadffcc27aeceb60eaf1c55ff743d316c441c33210e2eef05ae7aec5319d1", func := "loop.example/g01066/laws.FnUnits", spec := "fnUnits", inPlace := ["math.sqrt"], apart := false }
def FnUnitsSaid : Prop := fnUnitsRow.holds Try.pinned (OpenSpec.ofChange fnUnitsSpec)

/-- ITS FALSE NEIGHBOUR: 'it returns false'. Refute it at one input. -/
def fnUnitsWrong : ChangeSpec := { name := "fnUnits", fn := fun _ => fun
  | [d1, d2] => { results := [.lit (.bool false)], args := [d1, d2] }
  | _ => none }
def FnUnitsWrongFalsely : Prop := fnUnitsRow.holds Try.pinned (OpenSpec.ofChange fnUnitsWrong)

/- THE SECOND FORM. 'bulk': how many values and letters a reading holds, each counted each time it is reached (what is shared counts as often as it is met; a slice's spare places count too). A statement '..UptoSaid' is the law's where the arguments, and the package variables that the reading takes, are together of bulk at most 1048576: NARROWER than '..Said'. Prove '..Said' where nothing that the law and all that it calls make is longer than what came in: it says more and counts as full. Else prove '..UptoSaid'. A law counts once. -/
mutual
def uptoBulk {H : Type} : DataW H → Nat
  | .lit (.string bytes) => bytes.length + 1
  | .lit _ => 1
  | .nil => 1
  | .ptr d => uptoBulk d + 1
  | .slice elems spare => uptoBulkAll elems + uptoBulkAll spare + 1
  | .agg parts => uptoBulkAll parts + 1
  | .iface _ d => uptoBulk d + 1
  | .map entries => uptoBulkEntries entries + 1
  | .held _ => 1
def uptoBulkAll {H : Type} : List (DataW H) → Nat
  | [] => 0
  | d :: r => uptoBulk d + uptoBulkAll r
def uptoBulkEntries {H : Type} : List (Lit × DataW H) → Nat
  | [] => 0
  | x :: r => uptoBulkEntry x + uptoBulkEntries r
def uptoBulkEntry {H : Type} : Lit × DataW H → Nat
  | (.string bytes, d) => bytes.length + uptoBulk d + 1
  | (_, d) => uptoBulk d + 1
 end
def uptoSmall : (H : Type) → List (DataW H) → Bool := fun _ ds => decide (uptoBulkAll ds ≤ 1048576)
def OpenSpec.upto (s : _root_.Go.ChangeSpec) : _root_.Go.OpenSpec := { _root_.Go.OpenSpec.ofChange s with cond := some uptoSmall }

/-- 'laws.FnPellSolutions', WHERE WHAT IT READS IS OF BULK AT MOST 1048576: true; the input reads as it did. -/
def fnPellSolutionsUptoRow : OpenClaim := { program := "ytemnkfigjpphgaa", sum := "37ccadffcc27aeceb60eaf1c55ff743d316c441c33210e2eef05ae7aec5319d1", func := "loop.example/g01066/laws.FnPellSolutions", spec := "fnPellSolutions", inPlace := ["math.sqrt"], apart := false, narrowed := true }
def FnPellSolutionsUptoSaid : Prop := fnPellSolutionsUptoRow.holds Try.pinned (OpenSpec.upto fnPellSolutionsSpec)

/-- 'laws.FnCycleMatrices', WHERE WHAT IT READS IS OF BULK AT MOST 1048576: true; the input reads as it did. -/
def fnCycleMatricesUptoRow : OpenClaim := { program := "ytemnkfigjpphgaa", sum := "37ccadffcc27aeceb60eaf1c55ff743d316c441c33210e2eef05ae7aec5319d1", func := "loop.example/g01066/laws.FnCycleMatrices", spec := "fnCycleMatrices", apart := false, narrowed := true }
def FnCycleMatricesUptoSaid : Prop := fnCycleMatricesUptoRow.holds Try.pinned (OpenSpec.upto fnCycleMatricesSpec)

/-- 'laws.FnUnits', WHERE WHAT IT READS IS OF BULK AT MOST 1048576: true; the input reads as it did. -/
def fnUnitsUptoRow : OpenClaim := { program := "ytemnkfigjpphgaa", sum := "37ccadffcc27aeceb60eaf1c55ff743d316c441c33210e2eef05ae7aec5319d1", func := "loop.example/g01066/laws.FnUnits", spec := "fnUnits", inPlace := ["math.sqrt"], apart := false, narrowed := true }
def FnUnitsUptoSaid : Prop := fnUnitsUptoRow.holds Try.pinned (OpenSpec.upto fnUnitsSpec)

end Rows
end Go.Proofs.Ytemnkfigjpphgaa
