/-
  No cell of these rows narrows 'for every input' (looked for: loops, veiled, ifaces, maps, wideKeys, modest, calm, conditions, laid).
  DERIVED. THE GIVEN ROWS OF THIS SEAT. 8 by the template 'for every input the law returns true; each argument reads behind the call as it read before'; 0 by the template 'total and deterministic' (their statements: YtphmjehmeigmdaaTotals.lean).
  GIVEN WITH THE SEED: the statements are not yours to turn. If you find one false, say at which input.
  Laid BY PROGRAM, IN A SANDBOX (cutbox-rows.mjs): the forced cells as the released guide's own fill.sh prints them over the translation 02c8f57b1f224932… (all of the seat's roots in one cut). By AI agents, Wed Nov 11 2026. No macro, syntax, notation, axiom, sorry.
-/
import Derived.Test.YtphmjehmeigmdaaChecked
import GoSem.Claim
import GoSem.ClaimJoined
import GoSem.ClaimMapViews
import Derived.JoinedTies
import Derived.KernelRfl
namespace Go.Proofs.Ytphmjehmeigmdaa
/- THE CELL 'sum', in the pinned program and in every row, IS THE sha256 OF THE DUMP (.gsa) THAT YtphmjehmeigmdaaProg.lean LOADS. Nothing in Lean hashes anything: it is a label: what it is worth is what the hold of that sum in a sandbox is worth. -/
noncomputable def Try.pinned : Pinned := { name := "ytphmjehmeigmdaa", sum := "02c8f57b1f22493221e0bccfb5d8864d6181b4376d6a09ef519c8aad74e7a69a", checked := Try.checked }
namespace Rows
def none {H : Type} : Left H := { results := [], args := [] }

/-- 'laws.FnExactIsCube': WHATEVER THE INPUT: true; the input reads as it did. -/
def fnExactIsCubeSpec : ChangeSpec := { name := "fnExactIsCube", fn := fun _ => fun
  | [d] => { results := [.lit (.bool true)], args := [d] }
  | _ => none }
def fnExactIsCubeRow : OpenClaim := { program := "ytphmjehmeigmdaa", sum := "02c8f57b1f22493221e0bccfb5d8864d6181b4376d6a09ef519c8aad74e7a69a", func := "loop.example/g01066/laws.FnExactIsCube", spec := "fnExactIsCube", apart := false }
def FnExactIsCubeSaid : Prop := fnExactIsCubeRow.holds Try.pinned (OpenSpec.ofChange fnExactIsCubeSpec)

/-- ITS FALSE NEIGHBOUR: 'it returns false'. Refute it at one input. -/
def fnExactIsCubeWrong : ChangeSpec := { name := "fnExactIsCube", fn := fun _ => fun
  | [d] => { results := [.lit (.bool false)], args := [d] }
  | _ => none }
def FnExactIsCubeWrongFalsely : Prop := fnExactIsCubeRow.holds Try.pinned (OpenSpec.ofChange fnExactIsCubeWrong)

/-- 'laws.FnExactCubeDiscriminant': WHATEVER THE INPUT: true; the input reads as it did. -/
def fnExactCubeDiscriminantSpec : ChangeSpec := { name := "fnExactCubeDiscriminant", fn := fun _ => fun
  | [d] => { results := [.lit (.bool true)], args := [d] }
  | _ => none }
def fnExactCubeDiscriminantRow : OpenClaim := { program := "ytphmjehmeigmdaa", sum := "02c8f57b1f22493221e0bccfb5d8864d6181b4376d6a09ef519c8aad74e7a69a", func := "loop.example/g01066/laws.FnExactCubeDiscriminant", spec := "fnExactCubeDiscriminant", apart := false }
def FnExactCubeDiscriminantSaid : Prop := fnExactCubeDiscriminantRow.holds Try.pinned (OpenSpec.ofChange fnExactCubeDiscriminantSpec)

/-- ITS FALSE NEIGHBOUR: 'it returns false'. Refute it at one input. -/
def fnExactCubeDiscriminantWrong : ChangeSpec := { name := "fnExactCubeDiscriminant", fn := fun _ => fun
  | [d] => { results := [.lit (.bool false)], args := [d] }
  | _ => none }
def FnExactCubeDiscriminantWrongFalsely : Prop := fnExactCubeDiscriminantRow.holds Try.pinned (OpenSpec.ofChange fnExactCubeDiscriminantWrong)

/-- 'laws.FnExactSwapCube': WHATEVER THE INPUT: true; the input reads as it did. -/
def fnExactSwapCubeSpec : ChangeSpec := { name := "fnExactSwapCube", fn := fun _ => fun
  | [d] => { results := [.lit (.bool true)], args := [d] }
  | _ => none }
def fnExactSwapCubeRow : OpenClaim := { program := "ytphmjehmeigmdaa", sum := "02c8f57b1f22493221e0bccfb5d8864d6181b4376d6a09ef519c8aad74e7a69a", func := "loop.example/g01066/laws.FnExactSwapCube", spec := "fnExactSwapCube", apart := false }
def FnExactSwapCubeSaid : Prop := fnExactSwapCubeRow.holds Try.pinned (OpenSpec.ofChange fnExactSwapCubeSpec)

/-- ITS FALSE NEIGHBOUR: 'it returns false'. Refute it at one input. -/
def fnExactSwapCubeWrong : ChangeSpec := { name := "fnExactSwapCube", fn := fun _ => fun
  | [d] => { results := [.lit (.bool false)], args := [d] }
  | _ => none }
def FnExactSwapCubeWrongFalsely : Prop := fnExactSwapCubeRow.holds Try.pinned (OpenSpec.ofChange fnExactSwapCubeWrong)

/-- 'laws.FnExactTurnCube': WHATEVER THE INPUT: true; the input reads as it did. -/
def fnExactTurnCubeSpec : ChangeSpec := { name := "fnExactTurnCube", fn := fun _ => fun
  | [d] => { results := [.lit (.bool true)], args := [d] }
  | _ => none }
def fnExactTurnCubeRow : OpenClaim := { program := "ytphmjehmeigmdaa", sum := "02c8f57b1f22493221e0bccfb5d8864d6181b4376d6a09ef519c8aad74e7a69a", func := "loop.example/g01066/laws.FnExactTurnCube", spec := "fnExactTurnCube", apart := false }
def FnExactTurnCubeSaid : Prop := fnExactTurnCubeRow.holds Try.pinned (OpenSpec.ofChange fnExactTurnCubeSpec)

/-- ITS FALSE NEIGHBOUR: 'it returns false'. Refute it at one input. -/
def fnExactTurnCubeWrong : ChangeSpec := { name := "fnExactTurnCube", fn := fun _ => fun
  | [d] => { results := [.lit (.bool false)], args := [d] }
  | _ => none }
def FnExactTurnCubeWrongFalsely : Prop := fnExactTurnCubeRow.holds Try.pinned (OpenSpec.ofChange fnExactTurnCubeWrong)

/-- 'laws.FnExactIdentityCube': WHATEVER THE INPUT: true; the input reads as it did. -/
def fnExactIdentityCubeSpec : ChangeSpec := { name := "fnExactIdentityCube", fn := fun _ => fun
  | [d] => { results := [.lit (.bool true)], args := [d] }
  | _ => none }
def fnExactIdentityCubeRow : OpenClaim := { program := "ytphmjehmeigmdaa", sum := "02c8f57b1f22493221e0bccfb5d8864d6181b4376d6a09ef519c8aad74e7a69a", func := "loop.example/g01066/laws.FnExactIdentityCube", spec := "fnExactIdentityCube", apart := false }
def FnExactIdentityCubeSaid : Prop := fnExactIdentityCubeRow.holds Try.pinned (OpenSpec.ofChange fnExactIdentityCubeSpec)

/-- ITS FALSE NEIGHBOUR: 'it returns false'. Refute it at one input. -/
def fnExactIdentityCubeWrong : ChangeSpec := { name := "fnExactIdentityCube", fn := fun _ => fun
  | [d] => { results := [.lit (.bool false)], args := [d] }
  | _ => none }
def FnExactIdentityCubeWrongFalsely : Prop := fnExactIdentityCubeRow.holds Try.pinned (OpenSpec.ofChange fnExactIdentityCubeWrong)

/-- 'laws.FnExactCubeForms': WHATEVER THE INPUT: true; the input reads as it did. -/
def fnExactCubeFormsSpec : ChangeSpec := { name := "fnExactCubeForms", fn := fun _ => fun
  | [d] => { results := [.lit (.bool true)], args := [d] }
  | _ => none }
def fnExactCubeFormsRow : OpenClaim := { program := "ytphmjehmeigmdaa", sum := "02c8f57b1f22493221e0bccfb5d8864d6181b4376d6a09ef519c8aad74e7a69a", func := "loop.example/g01066/laws.FnExactCubeForms", spec := "fnExactCubeForms", apart := false }
def FnExactCubeFormsSaid : Prop := fnExactCubeFormsRow.holds Try.pinned (OpenSpec.ofChange fnExactCubeFormsSpec)

/-- ITS FALSE NEIGHBOUR: 'it returns false'. Refute it at one input. -/
def fnExactCubeFormsWrong : ChangeSpec := { name := "fnExactCubeForms", fn := fun _ => fun
  | [d] => { results := [.lit (.bool false)], args := [d] }
  | _ => none }
def FnExactCubeFormsWrongFalsely : Prop := fnExactCubeFormsRow.holds Try.pinned (OpenSpec.ofChange fnExactCubeFormsWrong)

/-- 'laws.FnExactIsProjective': WHATEVER THE INPUT: true; the input reads as it did. -/
def fnExactIsProjectiveSpec : ChangeSpec := { name := "fnExactIsProjective", fn := fun _ => fun
  | [d] => { results := [.lit (.bool true)], args := [d] }
  | _ => none }
def fnExactIsProjectiveRow : OpenClaim := { program := "ytphmjehmeigmdaa", sum := "02c8f57b1f22493221e0bccfb5d8864d6181b4376d6a09ef519c8aad74e7a69a", func := "loop.example/g01066/laws.FnExactIsProjective", spec := "fnExactIsProjective", apart := false }
def FnExactIsProjectiveSaid : Prop := fnExactIsProjectiveRow.holds Try.pinned (OpenSpec.ofChange fnExactIsProjectiveSpec)

/-- ITS FALSE NEIGHBOUR: 'it returns false'. Refute it at one input. -/
def fnExactIsProjectiveWrong : ChangeSpec := { name := "fnExactIsProjective", fn := fun _ => fun
  | [d] => { results := [.lit (.bool false)], args := [d] }
  | _ => none }
def FnExactIsProjectiveWrongFalsely : Prop := fnExactIsProjectiveRow.holds Try.pinned (OpenSpec.ofChange fnExactIsProjectiveWrong)

/-- 'laws.FnExactActOnCube': WHATEVER THE INPUT: true; the input reads as it did. -/
def fnExactActOnCubeSpec : ChangeSpec := { name := "fnExactActOnCube", fn := fun _ => fun
  | [d1, d2, d3] => { results := [.lit (.bool true)], args := [d1, d2, d3] }
  | _ => none }
def fnExactActOnCubeRow : OpenClaim := { program := "ytphmjehmeigmdaa", sum := "02c8f57b1f22493221e0bccfb5d8864d6181b4376d6a09ef519c8aad74e7a69a", func := "loop.example/g01066/laws.FnExactActOnCube", spec := "fnExactActOnCube", apart := false }
def FnExactActOnCubeSaid : Prop := fnExactActOnCubeRow.holds Try.pinned (OpenSpec.ofChange fnExactActOnCubeSpec)

/-- ITS FALSE NEIGHBOUR: 'it returns false'. Refute it at one input. -/
def fnExactActOnCubeWrong : ChangeSpec := { name := "fnExactActOnCube", fn := fun _ => fun
  | [d1, d2, d3] => { results := [.lit (.bool false)], args := [d1, d2, d3] }
  | _ => none }
def FnExactActOnCubeWrongFalsely : Prop := fnExactActOnCubeRow.holds Try.pinned (OpenSpec.ofChange fnExactActOnCubeWrong)

/- THE SECOND FORM. 'bulk': how many values and letters a reading holds, each counted each time it is reached (what is shared counts as often as it is met; a slice's spare places count too). A statement '..UptoSaid' is the law's where the arguments, and the package variables that the reading takes, are together of bulk at most 1048576: NARROWER than '..Said'. Prove '..Said' where nothing that the law and all that it calls make is longer than what came in: it says more and counts as full. Else prove '..UptoSaid'. A law counts once. -/
mutual
def uptoBulk {H : Type} : DataW H → Nat
  | .lit (.string bytes) => bytes.length + 1
  | .lit _ => 1
  | .nil => 1
  | .ptr d => uptoBulk d + 1
  | .slice elems spare => uptoBulkAll elems + uptoBulkAll spare + 1
  | .agg parts => uptoBulkAll parts + 1
  | .iface _ d => uptoBulk d + 1
  | .map entries => uptoBulkEntries entries + 1
  | .held _ => 1
def uptoBulkAll {H : Type} : List (DataW H) → Nat
  | [] => 0
  | d :: r => uptoBulk d + uptoBulkAll r
def uptoBulkEntries {H : Type} : List (Lit × DataW H) → Nat
  | [] => 0
  | x :: r => uptoBulkEntry x + uptoBulkEntries r
def uptoBulkEntry {H : Type} : Lit × DataW H → Nat
  | (.string bytes, d) => bytes.length + uptoBulk d + 1
  | (_, d) => uptoBulk d + 1
 end
def uptoSmall : (H : Type) → List (DataW H) → Bool := fun _ ds => decide (uptoBulkAll ds ≤ 1048576)
def OpenSpec.upto (s : _root_.Go.ChangeSpec) : _root_.Go.OpenSpec := { _root_.Go.OpenSpec.ofChange s with cond := some uptoSmall }

/-- 'laws.FnExactIsCube', WHERE WHAT IT READS IS OF BULK AT MOST 1048576: true; the input reads as it did. -/
def fnExactIsCubeUptoRow : OpenClaim := { program := "ytphmjehmeigmdaa", sum := "02c8f57b1f22493221e0bccfb5d8864d6181b4376d6a09ef519c8aad74e7a69a", func := "loop.example/g01066/laws.FnExactIsCube", spec := "fnExactIsCube", apart := false, narrowed := true }
def FnExactIsCubeUptoSaid : Prop := fnExactIsCubeUptoRow.holds Try.pinned (OpenSpec.upto fnExactIsCubeSpec)

/-- 'laws.FnExactCubeDiscriminant', WHERE WHAT IT READS IS OF BULK AT MOST 1048576: true; the input reads as it did. -/
def fnExactCubeDiscriminantUptoRow : OpenClaim := { program := "ytphmjehmeigmdaa", sum := "02c8f57b1f22493221e0bccfb5d8864d6181b4376d6a09ef519c8aad74e7a69a", func := "loop.example/g01066/laws.FnExactCubeDiscriminant", spec := "fnExactCubeDiscriminant", apart := false, narrowed := true }
def FnExactCubeDiscriminantUptoSaid : Prop := fnExactCubeDiscriminantUptoRow.holds Try.pinned (OpenSpec.upto fnExactCubeDiscriminantSpec)

/-- 'laws.FnExactSwapCube', WHERE WHAT IT READS IS OF BULK AT MOST 1048576: true; the input reads as it did. -/
def fnExactSwapCubeUptoRow : OpenClaim := { program := "ytphmjehmeigmdaa", sum := "02c8f57b1f22493221e0bccfb5d8864d6181b4376d6a09ef519c8aad74e7a69a", func := "loop.example/g01066/laws.FnExactSwapCube", spec := "fnExactSwapCube", apart := false, narrowed := true }
def FnExactSwapCubeUptoSaid : Prop := fnExactSwapCubeUptoRow.holds Try.pinned (OpenSpec.upto fnExactSwapCubeSpec)

/-- 'laws.FnExactTurnCube', WHERE WHAT IT READS IS OF BULK AT MOST 1048576: true; the input reads as it did. -/
def fnExactTurnCubeUptoRow : OpenClaim := { program := "ytphmjehmeigmdaa", sum := "02c8f57b1f22493221e0bccfb5d8864d6181b4376d6a09ef519c8aad74e7a69a", func := "loop.example/g01066/laws.FnExactTurnCube", spec := "fnExactTurnCube", apart := false, narrowed := true }
def FnExactTurnCubeUptoSaid : Prop := fnExactTurnCubeUptoRow.holds Try.pinned (OpenSpec.upto fnExactTurnCubeSpec)

/-- 'laws.FnExactIdentityCube', WHERE WHAT IT READS IS OF BULK AT MOST 1048576: true; the input reads as it did. -/
def fnExactIdentityCubeUptoRow : OpenClaim := { program := "ytphmjehmeigmdaa", sum := "02c8f57b1f22493221e0bccfb5d8864d6181b4376d6a09ef519c8aad74e7a69a", func := "loop.example/g01066/laws.FnExactIdentityCube", spec := "fnExactIdentityCube", apart := false, narrowed := true }
def FnExactIdentityCubeUptoSaid : Prop := fnExactIdentityCubeUptoRow.holds Try.pinned (OpenSpec.upto fnExactIdentityCubeSpec)

/-- 'laws.FnExactCubeForms', WHERE WHAT IT READS IS OF BULK AT MOST 1048576: true; the input reads as it did. -/
def fnExactCubeFormsUptoRow : OpenClaim := { program := "ytphmjehmeigmdaa", sum := "02c8f57b1f22493221e0bccfb5d8864d6181b4376d6a09ef519c8aad74e7a69a", func := "loop.example/g01066/laws.FnExactCubeForms", spec := "fnExactCubeForms", apart := false, narrowed := true }
def FnExactCubeFormsUptoSaid : Prop := fnExactCubeFormsUptoRow.holds Try.pinned (OpenSpec.upto fnExactCubeFormsSpec)

/-- 'laws.FnExactIsProjective', WHERE WHAT IT READS IS OF BULK AT MOST 1048576: true; the input reads as it did. -/
def fnExactIsProjectiveUptoRow : OpenClaim := { program := "ytphmjehmeigmdaa", sum := "02c8f57b1f22493221e0bccfb5d8864d6181b4376d6a09ef519c8aad74e7a69a", func := "loop.example/g01066/laws.FnExactIsProjective", spec := "fnExactIsProjective", apart := false, narrowed := true }
def FnExactIsProjectiveUptoSaid : Prop := fnExactIsProjectiveUptoRow.holds Try.pinned (OpenSpec.upto fnExactIsProjectiveSpec)

/-- 'laws.FnExactActOnCube', WHERE WHAT IT READS IS OF BULK AT MOST 1048576: true; the input reads as it did. -/
def fnExactActOnCubeUptoRow : OpenClaim := { program := "ytphmjehmeigmdaa", sum := "02c8f57b1f22493221e0bccfb5d8864d6181b4376d6a09ef519c8aad74e7a69a", func := "loop.example/g01066/laws.FnExactActOnCube", spec := "fnExactActOnCube", apart := false, narrowed := true }
def FnExactActOnCubeUptoSaid : Prop := fnExactActOnCubeUptoRow.holds Try.pinned (OpenSpec.upto fnExactActOnCubeSpec)

end Rows
end Go.Proofs.Ytphmjehmeigmdaa
