/-
  No cell of these rows narrows 'for every input' (looked for: loops, veiled, ifaces, maps, wideKeys, modest, calm, conditions, laid).
  DERIVED. THE GIVEN ROWS OF THIS SEAT. 6 by the template 'for every input the law returns true; each argument reads behind the call as it read before'; 0 by the template 'total and deterministic' (their statements: YtbdcdgdbgmgcgaaTotals.lean).
  GIVEN WITH THE SEED: the statements are not yours to turn. If you find one false, say at which input.
  Laid BY PROGRAM, IN A SANDBOX (cutbox-rows.mjs): the forced cells as the released guide's own fill.sh prints them over the translation ab7dc69f41003e9a… (all of the seat's roots in one cut). By AI agents, Wed Nov 11 2026. No macro, syntax, notation, axiom, sorry.
-/
import Derived.Test.YtbdcdgdbgmgcgaaChecked
import GoSem.Claim
import GoSem.ClaimJoined
import GoSem.ClaimMapViews
import Derived.JoinedTies
import Derived.KernelRfl
namespace Go.Proofs.Ytbdcdgdbgmgcgaa
/- THE CELL 'sum', in the pinned program and in every row, IS THE sha256 OF THE DUMP (.gsa) THAT YtbdcdgdbgmgcgaaProg.lean LOADS. Nothing in Lean hashes anything: it is a label: what it is worth is what the hold of that sum in a sandbox is worth. -/
noncomputable def Try.pinned : Pinned := { name := "ytbdcdgdbgmgcgaa", sum := "ab7dc69f41003e9a730c8a8c097c27483d4ae9850b46f701d8104365241bc968", checked := Try.checked }
namespace Rows
def none {H : Type} : Left H := { results := [], args := [] }

/-- 'laws.FnExactIsNode': WHATEVER THE INPUT: true; the input reads as it did. -/
def fnExactIsNodeSpec : ChangeSpec := { name := "fnExactIsNode", fn := fun _ => fun
  | [d] => { results := [.lit (.bool true)], args := [d] }
  | _ => none }
def fnExactIsNodeRow : OpenClaim := { program := "ytbdcdgdbgmgcgaa", sum := "ab7dc69f41003e9a730c8a8c097c27483d4ae9850b46f701d8104365241bc968", func := "loop.example/g01066/laws.FnExactIsNode", spec := "fnExactIsNode", apart := false }
def FnExactIsNodeSaid : Prop := fnExactIsNodeRow.holds Try.pinned (OpenSpec.ofChange fnExactIsNodeSpec)

/-- ITS FALSE NEIGHBOUR: 'it returns false'. Refute it at one input. -/
def fnExactIsNodeWrong : ChangeSpec := { name := "fnExactIsNode", fn := fun _ => fun
  | [d] => { results := [.lit (.bool false)], args := [d] }
  | _ => none }
def FnExactIsNodeWrongFalsely : Prop := fnExactIsNodeRow.holds Try.pinned (OpenSpec.ofChange fnExactIsNodeWrong)

/-- 'laws.FnExactNodeValues': WHATEVER THE INPUT: true; the input reads as it did. -/
def fnExactNodeValuesSpec : ChangeSpec := { name := "fnExactNodeValues", fn := fun _ => fun
  | [d1, d2] => { results := [.lit (.bool true)], args := [d1, d2] }
  | _ => none }
def fnExactNodeValuesRow : OpenClaim := { program := "ytbdcdgdbgmgcgaa", sum := "ab7dc69f41003e9a730c8a8c097c27483d4ae9850b46f701d8104365241bc968", func := "loop.example/g01066/laws.FnExactNodeValues", spec := "fnExactNodeValues", apart := false }
def FnExactNodeValuesSaid : Prop := fnExactNodeValuesRow.holds Try.pinned (OpenSpec.ofChange fnExactNodeValuesSpec)

/-- ITS FALSE NEIGHBOUR: 'it returns false'. Refute it at one input. -/
def fnExactNodeValuesWrong : ChangeSpec := { name := "fnExactNodeValues", fn := fun _ => fun
  | [d1, d2] => { results := [.lit (.bool false)], args := [d1, d2] }
  | _ => none }
def FnExactNodeValuesWrongFalsely : Prop := fnExactNodeValuesRow.holds Try.pinned (OpenSpec.ofChange fnExactNodeValuesWrong)

/-- 'laws.FnExactIsWell': WHATEVER THE INPUT: true; the input reads as it did. -/
def fnExactIsWellSpec : ChangeSpec := { name := "fnExactIsWell", fn := fun _ => fun
  | [d1, d2] => { results := [.lit (.bool true)], args := [d1, d2] }
  | _ => none }
def fnExactIsWellRow : OpenClaim := { program := "ytbdcdgdbgmgcgaa", sum := "ab7dc69f41003e9a730c8a8c097c27483d4ae9850b46f701d8104365241bc968", func := "loop.example/g01066/laws.FnExactIsWell", spec := "fnExactIsWell", apart := false }
def FnExactIsWellSaid : Prop := fnExactIsWellRow.holds Try.pinned (OpenSpec.ofChange fnExactIsWellSpec)

/-- ITS FALSE NEIGHBOUR: 'it returns false'. Refute it at one input. -/
def fnExactIsWellWrong : ChangeSpec := { name := "fnExactIsWell", fn := fun _ => fun
  | [d1, d2] => { results := [.lit (.bool false)], args := [d1, d2] }
  | _ => none }
def FnExactIsWellWrongFalsely : Prop := fnExactIsWellRow.holds Try.pinned (OpenSpec.ofChange fnExactIsWellWrong)

/-- 'laws.FnExactRiverStep': WHATEVER THE INPUT: true; the input reads as it did. -/
def fnExactRiverStepSpec : ChangeSpec := { name := "fnExactRiverStep", fn := fun _ => fun
  | [d] => { results := [.lit (.bool true)], args := [d] }
  | _ => none }
def fnExactRiverStepRow : OpenClaim := { program := "ytbdcdgdbgmgcgaa", sum := "ab7dc69f41003e9a730c8a8c097c27483d4ae9850b46f701d8104365241bc968", func := "loop.example/g01066/laws.FnExactRiverStep", spec := "fnExactRiverStep", apart := false }
def FnExactRiverStepSaid : Prop := fnExactRiverStepRow.holds Try.pinned (OpenSpec.ofChange fnExactRiverStepSpec)

/-- ITS FALSE NEIGHBOUR: 'it returns false'. Refute it at one input. -/
def fnExactRiverStepWrong : ChangeSpec := { name := "fnExactRiverStep", fn := fun _ => fun
  | [d] => { results := [.lit (.bool false)], args := [d] }
  | _ => none }
def FnExactRiverStepWrongFalsely : Prop := fnExactRiverStepRow.holds Try.pinned (OpenSpec.ofChange fnExactRiverStepWrong)

/-- 'laws.FnExactRiverWord': WHATEVER THE INPUT: true; the input reads as it did. -/
def fnExactRiverWordSpec : ChangeSpec := { name := "fnExactRiverWord", fn := fun _ => fun
  | [d] => { results := [.lit (.bool true)], args := [d] }
  | _ => none }
def fnExactRiverWordRow : OpenClaim := { program := "ytbdcdgdbgmgcgaa", sum := "ab7dc69f41003e9a730c8a8c097c27483d4ae9850b46f701d8104365241bc968", func := "loop.example/g01066/laws.FnExactRiverWord", spec := "fnExactRiverWord", apart := false }
def FnExactRiverWordSaid : Prop := fnExactRiverWordRow.holds Try.pinned (OpenSpec.ofChange fnExactRiverWordSpec)

/-- ITS FALSE NEIGHBOUR: 'it returns false'. Refute it at one input. -/
def fnExactRiverWordWrong : ChangeSpec := { name := "fnExactRiverWord", fn := fun _ => fun
  | [d] => { results := [.lit (.bool false)], args := [d] }
  | _ => none }
def FnExactRiverWordWrongFalsely : Prop := fnExactRiverWordRow.holds Try.pinned (OpenSpec.ofChange fnExactRiverWordWrong)

/-- 'laws.FnExactPellProduct': WHATEVER THE INPUT: true; the input reads as it did. -/
def fnExactPellProductSpec : ChangeSpec := { name := "fnExactPellProduct", fn := fun _ => fun
  | [d1, d2, d3] => { results := [.lit (.bool true)], args := [d1, d2, d3] }
  | _ => none }
def fnExactPellProductRow : OpenClaim := { program := "ytbdcdgdbgmgcgaa", sum := "ab7dc69f41003e9a730c8a8c097c27483d4ae9850b46f701d8104365241bc968", func := "loop.example/g01066/laws.FnExactPellProduct", spec := "fnExactPellProduct", apart := false }
def FnExactPellProductSaid : Prop := fnExactPellProductRow.holds Try.pinned (OpenSpec.ofChange fnExactPellProductSpec)

/-- ITS FALSE NEIGHBOUR: 'it returns false'. Refute it at one input. -/
def fnExactPellProductWrong : ChangeSpec := { name := "fnExactPellProduct", fn := fun _ => fun
  | [d1, d2, d3] => { results := [.lit (.bool false)], args := [d1, d2, d3] }
  | _ => none }
def FnExactPellProductWrongFalsely : Prop := fnExactPellProductRow.holds Try.pinned (OpenSpec.ofChange fnExactPellProductWrong)

/- THE SECOND FORM. 'bulk': how many values and letters a reading holds, each counted each time it is reached (what is shared counts as often as it is met; a slice's spare places count too). A statement '..UptoSaid' is the law's where the arguments, and the package variables that the reading takes, are together of bulk at most 1048576: NARROWER than '..Said'. Prove '..Said' where nothing that the law and all that it calls make is longer than what came in: it says more and counts as full. Else prove '..UptoSaid'. A law counts once. -/
mutual
def uptoBulk {H : Type} : DataW H → Nat
  | .lit (.string bytes) => bytes.length + 1
  | .lit _ => 1
  | .nil => 1
  | .ptr d => uptoBulk d + 1
  | .slice elems spare => uptoBulkAll elems + uptoBulkAll spare + 1
  | .agg parts => uptoBulkAll parts + 1
  | .iface _ d => uptoBulk d + 1
  | .map entries => uptoBulkEntries entries + 1
  | .held _ => 1
def uptoBulkAll {H : Type} : List (DataW H) → Nat
  | [] => 0
  | d :: r => uptoBulk d + uptoBulkAll r
def uptoBulkEntries {H : Type} : List (Lit × DataW H) → Nat
  | [] => 0
  | x :: r => uptoBulkEntry x + uptoBulkEntries r
def uptoBulkEntry {H : Type} : Lit × DataW H → Nat
  | (.string bytes, d) => bytes.length + uptoBulk d + 1
  | (_, d) => uptoBulk d + 1
 end
def uptoSmall : (H : Type) → List (DataW H) → Bool := fun _ ds => decide (uptoBulkAll ds ≤ 1048576)
def OpenSpec.upto (s : _root_.Go.ChangeSpec) : _root_.Go.OpenSpec := { _root_.Go.OpenSpec.ofChange s with cond := some uptoSmall }

/-- 'laws.FnExactIsNode', WHERE WHAT IT READS IS OF BULK AT MOST 1048576: true; the input reads as it did. -/
def fnExactIsNodeUptoRow : OpenClaim := { program := "ytbdcdgdbgmgcgaa", sum := "ab7dc69f41003e9a730c8a8c097c27483d4ae9850b46f701d8104365241bc968", func := "loop.example/g01066/laws.FnExactIsNode", spec := "fnExactIsNode", apart := false, narrowed := true }
def FnExactIsNodeUptoSaid : Prop := fnExactIsNodeUptoRow.holds Try.pinned (OpenSpec.upto fnExactIsNodeSpec)

/-- 'laws.FnExactNodeValues', WHERE WHAT IT READS IS OF BULK AT MOST 1048576: true; the input reads as it did. -/
def fnExactNodeValuesUptoRow : OpenClaim := { program := "ytbdcdgdbgmgcgaa", sum := "ab7dc69f41003e9a730c8a8c097c27483d4ae9850b46f701d8104365241bc968", func := "loop.example/g01066/laws.FnExactNodeValues", spec := "fnExactNodeValues", apart := false, narrowed := true }
def FnExactNodeValuesUptoSaid : Prop := fnExactNodeValuesUptoRow.holds Try.pinned (OpenSpec.upto fnExactNodeValuesSpec)

/-- 'laws.FnExactIsWell', WHERE WHAT IT READS IS OF BULK AT MOST 1048576: true; the input reads as it did. -/
def fnExactIsWellUptoRow : OpenClaim := { program := "ytbdcdgdbgmgcgaa", sum := "ab7dc69f41003e9a730c8a8c097c27483d4ae9850b46f701d8104365241bc968", func := "loop.example/g01066/laws.FnExactIsWell", spec := "fnExactIsWell", apart := false, narrowed := true }
def FnExactIsWellUptoSaid : Prop := fnExactIsWellUptoRow.holds Try.pinned (OpenSpec.upto fnExactIsWellSpec)

/-- 'laws.FnExactRiverStep', WHERE WHAT IT READS IS OF BULK AT MOST 1048576: true; the input reads as it did. -/
def fnExactRiverStepUptoRow : OpenClaim := { program := "ytbdcdgdbgmgcgaa", sum := "ab7dc69f41003e9a730c8a8c097c27483d4ae9850b46f701d8104365241bc968", func := "loop.example/g01066/laws.FnExactRiverStep", spec := "fnExactRiverStep", apart := false, narrowed := true }
def FnExactRiverStepUptoSaid : Prop := fnExactRiverStepUptoRow.holds Try.pinned (OpenSpec.upto fnExactRiverStepSpec)

/-- 'laws.FnExactRiverWord', WHERE WHAT IT READS IS OF BULK AT MOST 1048576: true; the input reads as it did. -/
def fnExactRiverWordUptoRow : OpenClaim := { program := "ytbdcdgdbgmgcgaa", sum := "ab7dc69f41003e9a730c8a8c097c27483d4ae9850b46f701d8104365241bc968", func := "loop.example/g01066/laws.FnExactRiverWord", spec := "fnExactRiverWord", apart := false, narrowed := true }
def FnExactRiverWordUptoSaid : Prop := fnExactRiverWordUptoRow.holds Try.pinned (OpenSpec.upto fnExactRiverWordSpec)

/-- 'laws.FnExactPellProduct', WHERE WHAT IT READS IS OF BULK AT MOST 1048576: true; the input reads as it did. -/
def fnExactPellProductUptoRow : OpenClaim := { program := "ytbdcdgdbgmgcgaa", sum := "ab7dc69f41003e9a730c8a8c097c27483d4ae9850b46f701d8104365241bc968", func := "loop.example/g01066/laws.FnExactPellProduct", spec := "fnExactPellProduct", apart := false, narrowed := true }
def FnExactPellProductUptoSaid : Prop := fnExactPellProductUptoRow.holds Try.pinned (OpenSpec.upto fnExactPellProductSpec)

end Rows
end Go.Proofs.Ytbdcdgdbgmgcgaa
