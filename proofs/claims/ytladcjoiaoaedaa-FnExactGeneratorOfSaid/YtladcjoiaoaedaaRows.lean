/-
  No cell of these rows narrows 'for every input' (looked for: loops, veiled, ifaces, maps, wideKeys, modest, calm, conditions, laid).
  DERIVED. THE GIVEN ROWS OF THIS SEAT. 9 by the template 'for every input the law returns true; each argument reads behind the call as it read before'; 0 by the template 'total and deterministic' (their statements: YtladcjoiaoaedaaTotals.lean).
  GIVEN WITH THE SEED: the statements are not yours to turn. If you find one false, say at which input.
  Laid BY PROGRAM, IN A SANDBOX (cutbox-rows.mjs): the forced cells as the released guide's own fill.sh prints them over the translation 10794b758a9b606b… (all of the seat's roots in one cut). By AI agents, Wed Nov 11 2026. No macro, syntax, notation, axiom, sorry.
-/
import Derived.Test.YtladcjoiaoaedaaChecked
import GoSem.Claim
import GoSem.ClaimJoined
import GoSem.ClaimMapViews
import Derived.JoinedTies
import Derived.KernelRfl
namespace Go.Proofs.Ytladcjoiaoaedaa
/- THE CELL 'sum', in the pinned program and in every row, IS THE sha256 OF THE DUMP (.gsa) THAT YtladcjoiaoaedaaProg.lean LOADS. Nothing in Lean hashes anything: it is a label: what it is worth is what the hold of that sum in a sandbox is worth. -/
noncomputable def Try.pinned : Pinned := { name := "ytladcjoiaoaedaa", sum := "10794b758a9b606b5e6772f90cfcc59510777fc732827bc8d4cf7b4bd5ff5649", checked := Try.checked }
namespace Rows
def none {H : Type} : Left H := { results := [], args := [] }

/-- 'laws.FnExactCountIdeals': WHATEVER THE INPUT: true; the input reads as it did. -/
def fnExactCountIdealsSpec : ChangeSpec := { name := "fnExactCountIdeals", fn := fun _ => fun
  | [d1, d2] => { results := [.lit (.bool true)], args := [d1, d2] }
  | _ => none }
def fnExactCountIdealsRow : OpenClaim := { program := "ytladcjoiaoaedaa", sum := "10794b758a9b606b5e6772f90cfcc59510777fc732827bc8d4cf7b4bd5ff5649", func := "loop.example/g01066/laws.FnExactCountIdeals", spec := "fnExactCountIdeals", apart := false }
def FnExactCountIdealsSaid : Prop := fnExactCountIdealsRow.holds Try.pinned (OpenSpec.ofChange fnExactCountIdealsSpec)

/-- ITS FALSE NEIGHBOUR: 'it returns false'. Refute it at one input. -/
def fnExactCountIdealsWrong : ChangeSpec := { name := "fnExactCountIdeals", fn := fun _ => fun
  | [d1, d2] => { results := [.lit (.bool false)], args := [d1, d2] }
  | _ => none }
def FnExactCountIdealsWrongFalsely : Prop := fnExactCountIdealsRow.holds Try.pinned (OpenSpec.ofChange fnExactCountIdealsWrong)

/-- 'laws.FnExactIdealsOfNorm': WHATEVER THE INPUT: true; the input reads as it did. -/
def fnExactIdealsOfNormSpec : ChangeSpec := { name := "fnExactIdealsOfNorm", fn := fun _ => fun
  | [d1, d2] => { results := [.lit (.bool true)], args := [d1, d2] }
  | _ => none }
def fnExactIdealsOfNormRow : OpenClaim := { program := "ytladcjoiaoaedaa", sum := "10794b758a9b606b5e6772f90cfcc59510777fc732827bc8d4cf7b4bd5ff5649", func := "loop.example/g01066/laws.FnExactIdealsOfNorm", spec := "fnExactIdealsOfNorm", apart := false }
def FnExactIdealsOfNormSaid : Prop := fnExactIdealsOfNormRow.holds Try.pinned (OpenSpec.ofChange fnExactIdealsOfNormSpec)

/-- ITS FALSE NEIGHBOUR: 'it returns false'. Refute it at one input. -/
def fnExactIdealsOfNormWrong : ChangeSpec := { name := "fnExactIdealsOfNorm", fn := fun _ => fun
  | [d1, d2] => { results := [.lit (.bool false)], args := [d1, d2] }
  | _ => none }
def FnExactIdealsOfNormWrongFalsely : Prop := fnExactIdealsOfNormRow.holds Try.pinned (OpenSpec.ofChange fnExactIdealsOfNormWrong)

/-- 'laws.FnExactIsPrimeIdeal': WHATEVER THE INPUT: true; the input reads as it did. -/
def fnExactIsPrimeIdealSpec : ChangeSpec := { name := "fnExactIsPrimeIdeal", fn := fun _ => fun
  | [d1, d2] => { results := [.lit (.bool true)], args := [d1, d2] }
  | _ => none }
def fnExactIsPrimeIdealRow : OpenClaim := { program := "ytladcjoiaoaedaa", sum := "10794b758a9b606b5e6772f90cfcc59510777fc732827bc8d4cf7b4bd5ff5649", func := "loop.example/g01066/laws.FnExactIsPrimeIdeal", spec := "fnExactIsPrimeIdeal", apart := false }
def FnExactIsPrimeIdealSaid : Prop := fnExactIsPrimeIdealRow.holds Try.pinned (OpenSpec.ofChange fnExactIsPrimeIdealSpec)

/-- ITS FALSE NEIGHBOUR: 'it returns false'. Refute it at one input. -/
def fnExactIsPrimeIdealWrong : ChangeSpec := { name := "fnExactIsPrimeIdeal", fn := fun _ => fun
  | [d1, d2] => { results := [.lit (.bool false)], args := [d1, d2] }
  | _ => none }
def FnExactIsPrimeIdealWrongFalsely : Prop := fnExactIsPrimeIdealRow.holds Try.pinned (OpenSpec.ofChange fnExactIsPrimeIdealWrong)

/-- 'laws.FnExactIdealPower': WHATEVER THE INPUT: true; the input reads as it did. -/
def fnExactIdealPowerSpec : ChangeSpec := { name := "fnExactIdealPower", fn := fun _ => fun
  | [d1, d2, d3] => { results := [.lit (.bool true)], args := [d1, d2, d3] }
  | _ => none }
def fnExactIdealPowerRow : OpenClaim := { program := "ytladcjoiaoaedaa", sum := "10794b758a9b606b5e6772f90cfcc59510777fc732827bc8d4cf7b4bd5ff5649", func := "loop.example/g01066/laws.FnExactIdealPower", spec := "fnExactIdealPower", apart := false }
def FnExactIdealPowerSaid : Prop := fnExactIdealPowerRow.holds Try.pinned (OpenSpec.ofChange fnExactIdealPowerSpec)

/-- ITS FALSE NEIGHBOUR: 'it returns false'. Refute it at one input. -/
def fnExactIdealPowerWrong : ChangeSpec := { name := "fnExactIdealPower", fn := fun _ => fun
  | [d1, d2, d3] => { results := [.lit (.bool false)], args := [d1, d2, d3] }
  | _ => none }
def FnExactIdealPowerWrongFalsely : Prop := fnExactIdealPowerRow.holds Try.pinned (OpenSpec.ofChange fnExactIdealPowerWrong)

/-- 'laws.FnExactPrimeIdeals': WHATEVER THE INPUT: true; the input reads as it did. -/
def fnExactPrimeIdealsSpec : ChangeSpec := { name := "fnExactPrimeIdeals", fn := fun _ => fun
  | [d1, d2] => { results := [.lit (.bool true)], args := [d1, d2] }
  | _ => none }
def fnExactPrimeIdealsRow : OpenClaim := { program := "ytladcjoiaoaedaa", sum := "10794b758a9b606b5e6772f90cfcc59510777fc732827bc8d4cf7b4bd5ff5649", func := "loop.example/g01066/laws.FnExactPrimeIdeals", spec := "fnExactPrimeIdeals", apart := false }
def FnExactPrimeIdealsSaid : Prop := fnExactPrimeIdealsRow.holds Try.pinned (OpenSpec.ofChange fnExactPrimeIdealsSpec)

/-- ITS FALSE NEIGHBOUR: 'it returns false'. Refute it at one input. -/
def fnExactPrimeIdealsWrong : ChangeSpec := { name := "fnExactPrimeIdeals", fn := fun _ => fun
  | [d1, d2] => { results := [.lit (.bool false)], args := [d1, d2] }
  | _ => none }
def FnExactPrimeIdealsWrongFalsely : Prop := fnExactPrimeIdealsRow.holds Try.pinned (OpenSpec.ofChange fnExactPrimeIdealsWrong)

/-- 'laws.FnExactIdealQuotient': WHATEVER THE INPUT: true; the input reads as it did. -/
def fnExactIdealQuotientSpec : ChangeSpec := { name := "fnExactIdealQuotient", fn := fun _ => fun
  | [d1, d2, d3] => { results := [.lit (.bool true)], args := [d1, d2, d3] }
  | _ => none }
def fnExactIdealQuotientRow : OpenClaim := { program := "ytladcjoiaoaedaa", sum := "10794b758a9b606b5e6772f90cfcc59510777fc732827bc8d4cf7b4bd5ff5649", func := "loop.example/g01066/laws.FnExactIdealQuotient", spec := "fnExactIdealQuotient", apart := false }
def FnExactIdealQuotientSaid : Prop := fnExactIdealQuotientRow.holds Try.pinned (OpenSpec.ofChange fnExactIdealQuotientSpec)

/-- ITS FALSE NEIGHBOUR: 'it returns false'. Refute it at one input. -/
def fnExactIdealQuotientWrong : ChangeSpec := { name := "fnExactIdealQuotient", fn := fun _ => fun
  | [d1, d2, d3] => { results := [.lit (.bool false)], args := [d1, d2, d3] }
  | _ => none }
def FnExactIdealQuotientWrongFalsely : Prop := fnExactIdealQuotientRow.holds Try.pinned (OpenSpec.ofChange fnExactIdealQuotientWrong)

/-- 'laws.FnExactGeneratorOf': WHATEVER THE INPUT: true; the input reads as it did. -/
def fnExactGeneratorOfSpec : ChangeSpec := { name := "fnExactGeneratorOf", fn := fun _ => fun
  | [d1, d2] => { results := [.lit (.bool true)], args := [d1, d2] }
  | _ => none }
def fnExactGeneratorOfRow : OpenClaim := { program := "ytladcjoiaoaedaa", sum := "10794b758a9b606b5e6772f90cfcc59510777fc732827bc8d4cf7b4bd5ff5649", func := "loop.example/g01066/laws.FnExactGeneratorOf", spec := "fnExactGeneratorOf", apart := false }
def FnExactGeneratorOfSaid : Prop := fnExactGeneratorOfRow.holds Try.pinned (OpenSpec.ofChange fnExactGeneratorOfSpec)

/-- ITS FALSE NEIGHBOUR: 'it returns false'. Refute it at one input. -/
def fnExactGeneratorOfWrong : ChangeSpec := { name := "fnExactGeneratorOf", fn := fun _ => fun
  | [d1, d2] => { results := [.lit (.bool false)], args := [d1, d2] }
  | _ => none }
def FnExactGeneratorOfWrongFalsely : Prop := fnExactGeneratorOfRow.holds Try.pinned (OpenSpec.ofChange fnExactGeneratorOfWrong)

/-- 'laws.FnExactValuationAt': WHATEVER THE INPUT: true; the input reads as it did. -/
def fnExactValuationAtSpec : ChangeSpec := { name := "fnExactValuationAt", fn := fun _ => fun
  | [d1, d2, d3] => { results := [.lit (.bool true)], args := [d1, d2, d3] }
  | _ => none }
def fnExactValuationAtRow : OpenClaim := { program := "ytladcjoiaoaedaa", sum := "10794b758a9b606b5e6772f90cfcc59510777fc732827bc8d4cf7b4bd5ff5649", func := "loop.example/g01066/laws.FnExactValuationAt", spec := "fnExactValuationAt", apart := false }
def FnExactValuationAtSaid : Prop := fnExactValuationAtRow.holds Try.pinned (OpenSpec.ofChange fnExactValuationAtSpec)

/-- ITS FALSE NEIGHBOUR: 'it returns false'. Refute it at one input. -/
def fnExactValuationAtWrong : ChangeSpec := { name := "fnExactValuationAt", fn := fun _ => fun
  | [d1, d2, d3] => { results := [.lit (.bool false)], args := [d1, d2, d3] }
  | _ => none }
def FnExactValuationAtWrongFalsely : Prop := fnExactValuationAtRow.holds Try.pinned (OpenSpec.ofChange fnExactValuationAtWrong)

/-- 'laws.FnExactFactorIdeal': WHATEVER THE INPUT: true; the input reads as it did. -/
def fnExactFactorIdealSpec : ChangeSpec := { name := "fnExactFactorIdeal", fn := fun _ => fun
  | [d1, d2] => { results := [.lit (.bool true)], args := [d1, d2] }
  | _ => none }
def fnExactFactorIdealRow : OpenClaim := { program := "ytladcjoiaoaedaa", sum := "10794b758a9b606b5e6772f90cfcc59510777fc732827bc8d4cf7b4bd5ff5649", func := "loop.example/g01066/laws.FnExactFactorIdeal", spec := "fnExactFactorIdeal", inPlace := ["internal/reflectlite.ValueOf", "internal/reflectlite.Swapper", "(internal/reflectlite.Value).Len"], unfollowed := true, recurses := true, apart := false }
def FnExactFactorIdealSaid : Prop := fnExactFactorIdealRow.holds Try.pinned (OpenSpec.ofChange fnExactFactorIdealSpec)

/-- ITS FALSE NEIGHBOUR: 'it returns false'. Refute it at one input. -/
def fnExactFactorIdealWrong : ChangeSpec := { name := "fnExactFactorIdeal", fn := fun _ => fun
  | [d1, d2] => { results := [.lit (.bool false)], args := [d1, d2] }
  | _ => none }
def FnExactFactorIdealWrongFalsely : Prop := fnExactFactorIdealRow.holds Try.pinned (OpenSpec.ofChange fnExactFactorIdealWrong)

/- THE SECOND FORM. 'bulk': how many values and letters a reading holds, each counted each time it is reached (what is shared counts as often as it is met; a slice's spare places count too). A statement '..UptoSaid' is the law's where the arguments, and the package variables that the reading takes, are together of bulk at most 1048576: NARROWER than '..Said'. Prove '..Said' where nothing that the law and all that it calls make is longer than what came in: it says more and counts as full. Else prove '..UptoSaid'. A law counts once. -/
mutual
def uptoBulk {H : Type} : DataW H → Nat
  | .lit (.string bytes) => bytes.length + 1
  | .lit _ => 1
  | .nil => 1
  | .ptr d => uptoBulk d + 1
  | .slice elems spare => uptoBulkAll elems + uptoBulkAll spare + 1
  | .agg parts => uptoBulkAll parts + 1
  | .iface _ d => uptoBulk d + 1
  | .map entries => uptoBulkEntries entries + 1
  | .held _ => 1
def uptoBulkAll {H : Type} : List (DataW H) → Nat
  | [] => 0
  | d :: r => uptoBulk d + uptoBulkAll r
def uptoBulkEntries {H : Type} : List (Lit × DataW H) → Nat
  | [] => 0
  | x :: r => uptoBulkEntry x + uptoBulkEntries r
def uptoBulkEntry {H : Type} : Lit × DataW H → Nat
  | (.string bytes, d) => bytes.length + uptoBulk d + 1
  | (_, d) => uptoBulk d + 1
 end
def uptoSmall : (H : Type) → List (DataW H) → Bool := fun _ ds => decide (uptoBulkAll ds ≤ 1048576)
def OpenSpec.upto (s : _root_.Go.ChangeSpec) : _root_.Go.OpenSpec := { _root_.Go.OpenSpec.ofChange s with cond := some uptoSmall }

/-- 'laws.FnExactCountIdeals', WHERE WHAT IT READS IS OF BULK AT MOST 1048576: true; the input reads as it did. -/
def fnExactCountIdealsUptoRow : OpenClaim := { program := "ytladcjoiaoaedaa", sum := "10794b758a9b606b5e6772f90cfcc59510777fc732827bc8d4cf7b4bd5ff5649", func := "loop.example/g01066/laws.FnExactCountIdeals", spec := "fnExactCountIdeals", apart := false, narrowed := true }
def FnExactCountIdealsUptoSaid : Prop := fnExactCountIdealsUptoRow.holds Try.pinned (OpenSpec.upto fnExactCountIdealsSpec)

/-- 'laws.FnExactIdealsOfNorm', WHERE WHAT IT READS IS OF BULK AT MOST 1048576: true; the input reads as it did. -/
def fnExactIdealsOfNormUptoRow : OpenClaim := { program := "ytladcjoiaoaedaa", sum := "10794b758a9b606b5e6772f90cfcc59510777fc732827bc8d4cf7b4bd5ff5649", func := "loop.example/g01066/laws.FnExactIdealsOfNorm", spec := "fnExactIdealsOfNorm", apart := false, narrowed := true }
def FnExactIdealsOfNormUptoSaid : Prop := fnExactIdealsOfNormUptoRow.holds Try.pinned (OpenSpec.upto fnExactIdealsOfNormSpec)

/-- 'laws.FnExactIsPrimeIdeal', WHERE WHAT IT READS IS OF BULK AT MOST 1048576: true; the input reads as it did. -/
def fnExactIsPrimeIdealUptoRow : OpenClaim := { program := "ytladcjoiaoaedaa", sum := "10794b758a9b606b5e6772f90cfcc59510777fc732827bc8d4cf7b4bd5ff5649", func := "loop.example/g01066/laws.FnExactIsPrimeIdeal", spec := "fnExactIsPrimeIdeal", apart := false, narrowed := true }
def FnExactIsPrimeIdealUptoSaid : Prop := fnExactIsPrimeIdealUptoRow.holds Try.pinned (OpenSpec.upto fnExactIsPrimeIdealSpec)

/-- 'laws.FnExactIdealPower', WHERE WHAT IT READS IS OF BULK AT MOST 1048576: true; the input reads as it did. -/
def fnExactIdealPowerUptoRow : OpenClaim := { program := "ytladcjoiaoaedaa", sum := "10794b758a9b606b5e6772f90cfcc59510777fc732827bc8d4cf7b4bd5ff5649", func := "loop.example/g01066/laws.FnExactIdealPower", spec := "fnExactIdealPower", apart := false, narrowed := true }
def FnExactIdealPowerUptoSaid : Prop := fnExactIdealPowerUptoRow.holds Try.pinned (OpenSpec.upto fnExactIdealPowerSpec)

/-- 'laws.FnExactPrimeIdeals', WHERE WHAT IT READS IS OF BULK AT MOST 1048576: true; the input reads as it did. -/
def fnExactPrimeIdealsUptoRow : OpenClaim := { program := "ytladcjoiaoaedaa", sum := "10794b758a9b606b5e6772f90cfcc59510777fc732827bc8d4cf7b4bd5ff5649", func := "loop.example/g01066/laws.FnExactPrimeIdeals", spec := "fnExactPrimeIdeals", apart := false, narrowed := true }
def FnExactPrimeIdealsUptoSaid : Prop := fnExactPrimeIdealsUptoRow.holds Try.pinned (OpenSpec.upto fnExactPrimeIdealsSpec)

/-- 'laws.FnExactIdealQuotient', WHERE WHAT IT READS IS OF BULK AT MOST 1048576: true; the input reads as it did. -/
def fnExactIdealQuotientUptoRow : OpenClaim := { program := "ytladcjoiaoaedaa", sum := "10794b758a9b606b5e6772f90cfcc59510777fc732827bc8d4cf7b4bd5ff5649", func := "loop.example/g01066/laws.FnExactIdealQuotient", spec := "fnExactIdealQuotient", apart := false, narrowed := true }
def FnExactIdealQuotientUptoSaid : Prop := fnExactIdealQuotientUptoRow.holds Try.pinned (OpenSpec.upto fnExactIdealQuotientSpec)

/-- 'laws.FnExactGeneratorOf', WHERE WHAT IT READS IS OF BULK AT MOST 1048576: true; the input reads as it did. -/
def fnExactGeneratorOfUptoRow : OpenClaim := { program := "ytladcjoiaoaedaa", sum := "10794b758a9b606b5e6772f90cfcc59510777fc732827bc8d4cf7b4bd5ff5649", func := "loop.example/g01066/laws.FnExactGeneratorOf", spec := "fnExactGeneratorOf", apart := false, narrowed := true }
def FnExactGeneratorOfUptoSaid : Prop := fnExactGeneratorOfUptoRow.holds Try.pinned (OpenSpec.upto fnExactGeneratorOfSpec)

/-- 'laws.FnExactValuationAt', WHERE WHAT IT READS IS OF BULK AT MOST 1048576: true; the input reads as it did. -/
def fnExactValuationAtUptoRow : OpenClaim := { program := "ytladcjoiaoaedaa", sum := "10794b758a9b606b5e6772f90cfcc59510777fc732827bc8d4cf7b4bd5ff5649", func := "loop.example/g01066/laws.FnExactValuationAt", spec := "fnExactValuationAt", apart := false, narrowed := true }
def FnExactValuationAtUptoSaid : Prop := fnExactValuationAtUptoRow.holds Try.pinned (OpenSpec.upto fnExactValuationAtSpec)

/-- 'laws.FnExactFactorIdeal', WHERE WHAT IT READS IS OF BULK AT MOST 1048576: true; the input reads as it did. -/
def fnExactFactorIdealUptoRow : OpenClaim := { program := "ytladcjoiaoaedaa", sum := "10794b758a9b606b5e6772f90cfcc59510777fc732827bc8d4cf7b4bd5ff5649", func := "loop.example/g01066/laws.FnExactFactorIdeal", spec := "fnExactFactorIdeal", inPlace := ["internal/reflectlite.ValueOf", "internal/reflectlite.Swapper", "(internal/reflectlite.Value).Len"], unfollowed := true, recurses := true, apart := false, narrowed := true }
def FnExactFactorIdealUptoSaid : Prop := fnExactFactorIdealUptoRow.holds Try.pinned (OpenSpec.upto fnExactFactorIdealSpec)

end Rows
end Go.Proofs.Ytladcjoiaoaedaa
