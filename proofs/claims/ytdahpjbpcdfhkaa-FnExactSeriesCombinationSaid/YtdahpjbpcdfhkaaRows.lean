/-
  No cell of these rows narrows 'for every input' (looked for: loops, veiled, ifaces, maps, wideKeys, modest, calm, conditions, laid).
  DERIVED. THE GIVEN ROWS OF THIS SEAT. 8 by the template 'for every input the law returns true; each argument reads behind the call as it read before'; 0 by the template 'total and deterministic' (their statements: YtdahpjbpcdfhkaaTotals.lean).
  GIVEN WITH THE SEED: the statements are not yours to turn. If you find one false, say at which input.
  Laid BY PROGRAM, IN A SANDBOX (cutbox-rows.mjs): the forced cells as the released guide's own fill.sh prints them over the translation 635b3aee3b482567… (all of the seat's roots in one cut). By AI agents, Wed Nov 11 2026. No macro, syntax, notation, axiom, sorry.
-/
import Derived.Test.YtdahpjbpcdfhkaaChecked
import GoSem.Claim
import GoSem.ClaimJoined
import GoSem.ClaimMapViews
import Derived.JoinedTies
import Derived.KernelRfl
namespace Go.Proofs.Ytdahpjbpcdfhkaa
/- THE CELL 'sum', in the pinned program and in every row, IS THE sha256 OF THE DUMP (.gsa) THAT YtdahpjbpcdfhkaaProg.lean LOADS. Nothing in Lean hashes anything: it is a label: what it is worth is what the hold of that sum in a sandbox is worth. -/
noncomputable def Try.pinned : Pinned := { name := "ytdahpjbpcdfhkaa", sum := "635b3aee3b482567b71064d71fc153236b9ab0d267b37c82fbed06f2a229a604", checked := Try.checked }
namespace Rows
def none {H : Type} : Left H := { results := [], args := [] }

/-- 'laws.FnExactOrdersAbove': WHATEVER THE INPUT: true; the input reads as it did. -/
def fnExactOrdersAboveSpec : ChangeSpec := { name := "fnExactOrdersAbove", fn := fun _ => fun
  | [d] => { results := [.lit (.bool true)], args := [d] }
  | _ => none }
def fnExactOrdersAboveRow : OpenClaim := { program := "ytdahpjbpcdfhkaa", sum := "635b3aee3b482567b71064d71fc153236b9ab0d267b37c82fbed06f2a229a604", func := "loop.example/g01066/laws.FnExactOrdersAbove", spec := "fnExactOrdersAbove", apart := false }
def FnExactOrdersAboveSaid : Prop := fnExactOrdersAboveRow.holds Try.pinned (OpenSpec.ofChange fnExactOrdersAboveSpec)

/-- ITS FALSE NEIGHBOUR: 'it returns false'. Refute it at one input. -/
def fnExactOrdersAboveWrong : ChangeSpec := { name := "fnExactOrdersAbove", fn := fun _ => fun
  | [d] => { results := [.lit (.bool false)], args := [d] }
  | _ => none }
def FnExactOrdersAboveWrongFalsely : Prop := fnExactOrdersAboveRow.holds Try.pinned (OpenSpec.ofChange fnExactOrdersAboveWrong)

/-- 'laws.FnExactClassNumberByHalf': WHATEVER THE INPUT: true; the input reads as it did. -/
def fnExactClassNumberByHalfSpec : ChangeSpec := { name := "fnExactClassNumberByHalf", fn := fun _ => fun
  | [d] => { results := [.lit (.bool true)], args := [d] }
  | _ => none }
def fnExactClassNumberByHalfRow : OpenClaim := { program := "ytdahpjbpcdfhkaa", sum := "635b3aee3b482567b71064d71fc153236b9ab0d267b37c82fbed06f2a229a604", func := "loop.example/g01066/laws.FnExactClassNumberByHalf", spec := "fnExactClassNumberByHalf", apart := false }
def FnExactClassNumberByHalfSaid : Prop := fnExactClassNumberByHalfRow.holds Try.pinned (OpenSpec.ofChange fnExactClassNumberByHalfSpec)

/-- ITS FALSE NEIGHBOUR: 'it returns false'. Refute it at one input. -/
def fnExactClassNumberByHalfWrong : ChangeSpec := { name := "fnExactClassNumberByHalf", fn := fun _ => fun
  | [d] => { results := [.lit (.bool false)], args := [d] }
  | _ => none }
def FnExactClassNumberByHalfWrongFalsely : Prop := fnExactClassNumberByHalfRow.holds Try.pinned (OpenSpec.ofChange fnExactClassNumberByHalfWrong)

/-- 'laws.FnExactClassNumberBySum': WHATEVER THE INPUT: true; the input reads as it did. -/
def fnExactClassNumberBySumSpec : ChangeSpec := { name := "fnExactClassNumberBySum", fn := fun _ => fun
  | [d] => { results := [.lit (.bool true)], args := [d] }
  | _ => none }
def fnExactClassNumberBySumRow : OpenClaim := { program := "ytdahpjbpcdfhkaa", sum := "635b3aee3b482567b71064d71fc153236b9ab0d267b37c82fbed06f2a229a604", func := "loop.example/g01066/laws.FnExactClassNumberBySum", spec := "fnExactClassNumberBySum", apart := false }
def FnExactClassNumberBySumSaid : Prop := fnExactClassNumberBySumRow.holds Try.pinned (OpenSpec.ofChange fnExactClassNumberBySumSpec)

/-- ITS FALSE NEIGHBOUR: 'it returns false'. Refute it at one input. -/
def fnExactClassNumberBySumWrong : ChangeSpec := { name := "fnExactClassNumberBySum", fn := fun _ => fun
  | [d] => { results := [.lit (.bool false)], args := [d] }
  | _ => none }
def FnExactClassNumberBySumWrongFalsely : Prop := fnExactClassNumberBySumRow.holds Try.pinned (OpenSpec.ofChange fnExactClassNumberBySumWrong)

/-- 'laws.FnExactDivisorSeries': WHATEVER THE INPUT: true; the input reads as it did. -/
def fnExactDivisorSeriesSpec : ChangeSpec := { name := "fnExactDivisorSeries", fn := fun _ => fun
  | [d1, d2] => { results := [.lit (.bool true)], args := [d1, d2] }
  | _ => none }
def fnExactDivisorSeriesRow : OpenClaim := { program := "ytdahpjbpcdfhkaa", sum := "635b3aee3b482567b71064d71fc153236b9ab0d267b37c82fbed06f2a229a604", func := "loop.example/g01066/laws.FnExactDivisorSeries", spec := "fnExactDivisorSeries", apart := false }
def FnExactDivisorSeriesSaid : Prop := fnExactDivisorSeriesRow.holds Try.pinned (OpenSpec.ofChange fnExactDivisorSeriesSpec)

/-- ITS FALSE NEIGHBOUR: 'it returns false'. Refute it at one input. -/
def fnExactDivisorSeriesWrong : ChangeSpec := { name := "fnExactDivisorSeries", fn := fun _ => fun
  | [d1, d2] => { results := [.lit (.bool false)], args := [d1, d2] }
  | _ => none }
def FnExactDivisorSeriesWrongFalsely : Prop := fnExactDivisorSeriesRow.holds Try.pinned (OpenSpec.ofChange fnExactDivisorSeriesWrong)

/-- 'laws.FnExactPrimeOnSeries': WHATEVER THE INPUT: true; the input reads as it did. -/
def fnExactPrimeOnSeriesSpec : ChangeSpec := { name := "fnExactPrimeOnSeries", fn := fun _ => fun
  | [d1, d2, d3] => { results := [.lit (.bool true)], args := [d1, d2, d3] }
  | _ => none }
def fnExactPrimeOnSeriesRow : OpenClaim := { program := "ytdahpjbpcdfhkaa", sum := "635b3aee3b482567b71064d71fc153236b9ab0d267b37c82fbed06f2a229a604", func := "loop.example/g01066/laws.FnExactPrimeOnSeries", spec := "fnExactPrimeOnSeries", apart := false }
def FnExactPrimeOnSeriesSaid : Prop := fnExactPrimeOnSeriesRow.holds Try.pinned (OpenSpec.ofChange fnExactPrimeOnSeriesSpec)

/-- ITS FALSE NEIGHBOUR: 'it returns false'. Refute it at one input. -/
def fnExactPrimeOnSeriesWrong : ChangeSpec := { name := "fnExactPrimeOnSeries", fn := fun _ => fun
  | [d1, d2, d3] => { results := [.lit (.bool false)], args := [d1, d2, d3] }
  | _ => none }
def FnExactPrimeOnSeriesWrongFalsely : Prop := fnExactPrimeOnSeriesRow.holds Try.pinned (OpenSpec.ofChange fnExactPrimeOnSeriesWrong)

/-- 'laws.FnExactSeriesCombination': WHATEVER THE INPUT: true; the input reads as it did. -/
def fnExactSeriesCombinationSpec : ChangeSpec := { name := "fnExactSeriesCombination", fn := fun _ => fun
  | [d1, d2, d3, d4] => { results := [.lit (.bool true)], args := [d1, d2, d3, d4] }
  | _ => none }
def fnExactSeriesCombinationRow : OpenClaim := { program := "ytdahpjbpcdfhkaa", sum := "635b3aee3b482567b71064d71fc153236b9ab0d267b37c82fbed06f2a229a604", func := "loop.example/g01066/laws.FnExactSeriesCombination", spec := "fnExactSeriesCombination", apart := false }
def FnExactSeriesCombinationSaid : Prop := fnExactSeriesCombinationRow.holds Try.pinned (OpenSpec.ofChange fnExactSeriesCombinationSpec)

/-- ITS FALSE NEIGHBOUR: 'it returns false'. Refute it at one input. -/
def fnExactSeriesCombinationWrong : ChangeSpec := { name := "fnExactSeriesCombination", fn := fun _ => fun
  | [d1, d2, d3, d4] => { results := [.lit (.bool false)], args := [d1, d2, d3, d4] }
  | _ => none }
def FnExactSeriesCombinationWrongFalsely : Prop := fnExactSeriesCombinationRow.holds Try.pinned (OpenSpec.ofChange fnExactSeriesCombinationWrong)

/-- 'laws.FnExactSeriesProduct': WHATEVER THE INPUT: true; the input reads as it did. -/
def fnExactSeriesProductSpec : ChangeSpec := { name := "fnExactSeriesProduct", fn := fun _ => fun
  | [d1, d2] => { results := [.lit (.bool true)], args := [d1, d2] }
  | _ => none }
def fnExactSeriesProductRow : OpenClaim := { program := "ytdahpjbpcdfhkaa", sum := "635b3aee3b482567b71064d71fc153236b9ab0d267b37c82fbed06f2a229a604", func := "loop.example/g01066/laws.FnExactSeriesProduct", spec := "fnExactSeriesProduct", apart := false }
def FnExactSeriesProductSaid : Prop := fnExactSeriesProductRow.holds Try.pinned (OpenSpec.ofChange fnExactSeriesProductSpec)

/-- ITS FALSE NEIGHBOUR: 'it returns false'. Refute it at one input. -/
def fnExactSeriesProductWrong : ChangeSpec := { name := "fnExactSeriesProduct", fn := fun _ => fun
  | [d1, d2] => { results := [.lit (.bool false)], args := [d1, d2] }
  | _ => none }
def FnExactSeriesProductWrongFalsely : Prop := fnExactSeriesProductRow.holds Try.pinned (OpenSpec.ofChange fnExactSeriesProductWrong)

/-- 'laws.FnExactDivisorSide': WHATEVER THE INPUT: true; the input reads as it did. -/
def fnExactDivisorSideSpec : ChangeSpec := { name := "fnExactDivisorSide", fn := fun _ => fun
  | [d] => { results := [.lit (.bool true)], args := [d] }
  | _ => none }
def fnExactDivisorSideRow : OpenClaim := { program := "ytdahpjbpcdfhkaa", sum := "635b3aee3b482567b71064d71fc153236b9ab0d267b37c82fbed06f2a229a604", func := "loop.example/g01066/laws.FnExactDivisorSide", spec := "fnExactDivisorSide", apart := false }
def FnExactDivisorSideSaid : Prop := fnExactDivisorSideRow.holds Try.pinned (OpenSpec.ofChange fnExactDivisorSideSpec)

/-- ITS FALSE NEIGHBOUR: 'it returns false'. Refute it at one input. -/
def fnExactDivisorSideWrong : ChangeSpec := { name := "fnExactDivisorSide", fn := fun _ => fun
  | [d] => { results := [.lit (.bool false)], args := [d] }
  | _ => none }
def FnExactDivisorSideWrongFalsely : Prop := fnExactDivisorSideRow.holds Try.pinned (OpenSpec.ofChange fnExactDivisorSideWrong)

/- THE SECOND FORM. 'bulk': how many values and letters a reading holds, each counted each time it is reached (what is shared counts as often as it is met; a slice's spare places count too). A statement '..UptoSaid' is the law's where the arguments, and the package variables that the reading takes, are together of bulk at most 1048576: NARROWER than '..Said'. Prove '..Said' where nothing that the law and all that it calls make is longer than what came in: it says more and counts as full. Else prove '..UptoSaid'. A law counts once. -/
mutual
def uptoBulk {H : Type} : DataW H → Nat
  | .lit (.string bytes) => bytes.length + 1
  | .lit _ => 1
  | .nil => 1
  | .ptr d => uptoBulk d + 1
  | .slice elems spare => uptoBulkAll elems + uptoBulkAll spare + 1
  | .agg parts => uptoBulkAll parts + 1
  | .iface _ d => uptoBulk d + 1
  | .map entries => uptoBulkEntries entries + 1
  | .held _ => 1
def uptoBulkAll {H : Type} : List (DataW H) → Nat
  | [] => 0
  | d :: r => uptoBulk d + uptoBulkAll r
def uptoBulkEntries {H : Type} : List (Lit × DataW H) → Nat
  | [] => 0
  | x :: r => uptoBulkEntry x + uptoBulkEntries r
def uptoBulkEntry {H : Type} : Lit × DataW H → Nat
  | (.string bytes, d) => bytes.length + uptoBulk d + 1
  | (_, d) => uptoBulk d + 1
 end
def uptoSmall : (H : Type) → List (DataW H) → Bool := fun _ ds => decide (uptoBulkAll ds ≤ 1048576)
def OpenSpec.upto (s : _root_.Go.ChangeSpec) : _root_.Go.OpenSpec := { _root_.Go.OpenSpec.ofChange s with cond := some uptoSmall }

/-- 'laws.FnExactOrdersAbove', WHERE WHAT IT READS IS OF BULK AT MOST 1048576: true; the input reads as it did. -/
def fnExactOrdersAboveUptoRow : OpenClaim := { program := "ytdahpjbpcdfhkaa", sum := "635b3aee3b482567b71064d71fc153236b9ab0d267b37c82fbed06f2a229a604", func := "loop.example/g01066/laws.FnExactOrdersAbove", spec := "fnExactOrdersAbove", apart := false, narrowed := true }
def FnExactOrdersAboveUptoSaid : Prop := fnExactOrdersAboveUptoRow.holds Try.pinned (OpenSpec.upto fnExactOrdersAboveSpec)

/-- 'laws.FnExactClassNumberByHalf', WHERE WHAT IT READS IS OF BULK AT MOST 1048576: true; the input reads as it did. -/
def fnExactClassNumberByHalfUptoRow : OpenClaim := { program := "ytdahpjbpcdfhkaa", sum := "635b3aee3b482567b71064d71fc153236b9ab0d267b37c82fbed06f2a229a604", func := "loop.example/g01066/laws.FnExactClassNumberByHalf", spec := "fnExactClassNumberByHalf", apart := false, narrowed := true }
def FnExactClassNumberByHalfUptoSaid : Prop := fnExactClassNumberByHalfUptoRow.holds Try.pinned (OpenSpec.upto fnExactClassNumberByHalfSpec)

/-- 'laws.FnExactClassNumberBySum', WHERE WHAT IT READS IS OF BULK AT MOST 1048576: true; the input reads as it did. -/
def fnExactClassNumberBySumUptoRow : OpenClaim := { program := "ytdahpjbpcdfhkaa", sum := "635b3aee3b482567b71064d71fc153236b9ab0d267b37c82fbed06f2a229a604", func := "loop.example/g01066/laws.FnExactClassNumberBySum", spec := "fnExactClassNumberBySum", apart := false, narrowed := true }
def FnExactClassNumberBySumUptoSaid : Prop := fnExactClassNumberBySumUptoRow.holds Try.pinned (OpenSpec.upto fnExactClassNumberBySumSpec)

/-- 'laws.FnExactDivisorSeries', WHERE WHAT IT READS IS OF BULK AT MOST 1048576: true; the input reads as it did. -/
def fnExactDivisorSeriesUptoRow : OpenClaim := { program := "ytdahpjbpcdfhkaa", sum := "635b3aee3b482567b71064d71fc153236b9ab0d267b37c82fbed06f2a229a604", func := "loop.example/g01066/laws.FnExactDivisorSeries", spec := "fnExactDivisorSeries", apart := false, narrowed := true }
def FnExactDivisorSeriesUptoSaid : Prop := fnExactDivisorSeriesUptoRow.holds Try.pinned (OpenSpec.upto fnExactDivisorSeriesSpec)

/-- 'laws.FnExactPrimeOnSeries', WHERE WHAT IT READS IS OF BULK AT MOST 1048576: true; the input reads as it did. -/
def fnExactPrimeOnSeriesUptoRow : OpenClaim := { program := "ytdahpjbpcdfhkaa", sum := "635b3aee3b482567b71064d71fc153236b9ab0d267b37c82fbed06f2a229a604", func := "loop.example/g01066/laws.FnExactPrimeOnSeries", spec := "fnExactPrimeOnSeries", apart := false, narrowed := true }
def FnExactPrimeOnSeriesUptoSaid : Prop := fnExactPrimeOnSeriesUptoRow.holds Try.pinned (OpenSpec.upto fnExactPrimeOnSeriesSpec)

/-- 'laws.FnExactSeriesCombination', WHERE WHAT IT READS IS OF BULK AT MOST 1048576: true; the input reads as it did. -/
def fnExactSeriesCombinationUptoRow : OpenClaim := { program := "ytdahpjbpcdfhkaa", sum := "635b3aee3b482567b71064d71fc153236b9ab0d267b37c82fbed06f2a229a604", func := "loop.example/g01066/laws.FnExactSeriesCombination", spec := "fnExactSeriesCombination", apart := false, narrowed := true }
def FnExactSeriesCombinationUptoSaid : Prop := fnExactSeriesCombinationUptoRow.holds Try.pinned (OpenSpec.upto fnExactSeriesCombinationSpec)

/-- 'laws.FnExactSeriesProduct', WHERE WHAT IT READS IS OF BULK AT MOST 1048576: true; the input reads as it did. -/
def fnExactSeriesProductUptoRow : OpenClaim := { program := "ytdahpjbpcdfhkaa", sum := "635b3aee3b482567b71064d71fc153236b9ab0d267b37c82fbed06f2a229a604", func := "loop.example/g01066/laws.FnExactSeriesProduct", spec := "fnExactSeriesProduct", apart := false, narrowed := true }
def FnExactSeriesProductUptoSaid : Prop := fnExactSeriesProductUptoRow.holds Try.pinned (OpenSpec.upto fnExactSeriesProductSpec)

/-- 'laws.FnExactDivisorSide', WHERE WHAT IT READS IS OF BULK AT MOST 1048576: true; the input reads as it did. -/
def fnExactDivisorSideUptoRow : OpenClaim := { program := "ytdahpjbpcdfhkaa", sum := "635b3aee3b482567b71064d71fc153236b9ab0d267b37c82fbed06f2a229a604", func := "loop.example/g01066/laws.FnExactDivisorSide", spec := "fnExactDivisorSide", apart := false, narrowed := true }
def FnExactDivisorSideUptoSaid : Prop := fnExactDivisorSideUptoRow.holds Try.pinned (OpenSpec.upto fnExactDivisorSideSpec)

end Rows
end Go.Proofs.Ytdahpjbpcdfhkaa
