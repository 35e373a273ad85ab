/-
  No cell of these rows narrows 'for every input' (looked for: loops, veiled, ifaces, maps, wideKeys, modest, calm, conditions, laid).
  DERIVED. THE GIVEN ROWS OF THIS SEAT. 12 by the template 'for every input the law returns true; each argument reads behind the call as it read before'; 0 by the template 'total and deterministic' (their statements: YtdeboabifcpdbaaTotals.lean).
  GIVEN WITH THE SEED: the statements are not yours to turn. If you find one false, say at which input.
  Laid BY PROGRAM, IN A SANDBOX (cutbox-rows.mjs): the forced cells as the released guide's own fill.sh prints them over the translation ba8030cb02a8655d… (all of the seat's roots in one cut). By AI agents, Wed Nov 11 2026. No macro, syntax, notation, axiom, sorry.
-/
import Derived.Test.YtdeboabifcpdbaaChecked
import GoSem.Claim
import GoSem.ClaimJoined
import GoSem.ClaimMapViews
import Derived.JoinedTies
import Derived.KernelRfl
namespace Go.Proofs.Ytdeboabifcpdbaa
/- THE CELL 'sum', in the pinned program and in every row, IS THE sha256 OF THE DUMP (.gsa) THAT YtdeboabifcpdbaaProg.lean LOADS. Nothing in Lean hashes anything: it is a label: what it is worth is what the hold of that sum in a sandbox is worth. -/
noncomputable def Try.pinned : Pinned := { name := "ytdeboabifcpdbaa", sum := "ba8030cb02a8655d05e646c84d9a1e5bd7f817913a5a2a4ce820cb646207d6d6", checked := Try.checked }
namespace Rows
def none {H : Type} : Left H := { results := [], args := [] }

/-- 'laws.FnExactIsLattice': WHATEVER THE INPUT: true; the input reads as it did. -/
def fnExactIsLatticeSpec : ChangeSpec := { name := "fnExactIsLattice", fn := fun _ => fun
  | [d] => { results := [.lit (.bool true)], args := [d] }
  | _ => none }
def fnExactIsLatticeRow : OpenClaim := { program := "ytdeboabifcpdbaa", sum := "ba8030cb02a8655d05e646c84d9a1e5bd7f817913a5a2a4ce820cb646207d6d6", func := "loop.example/g01066/laws.FnExactIsLattice", spec := "fnExactIsLattice", apart := false }
def FnExactIsLatticeSaid : Prop := fnExactIsLatticeRow.holds Try.pinned (OpenSpec.ofChange fnExactIsLatticeSpec)

/-- ITS FALSE NEIGHBOUR: 'it returns false'. Refute it at one input. -/
def fnExactIsLatticeWrong : ChangeSpec := { name := "fnExactIsLattice", fn := fun _ => fun
  | [d] => { results := [.lit (.bool false)], args := [d] }
  | _ => none }
def FnExactIsLatticeWrongFalsely : Prop := fnExactIsLatticeRow.holds Try.pinned (OpenSpec.ofChange fnExactIsLatticeWrong)

/-- 'laws.FnExactLatticeIndex': WHATEVER THE INPUT: true; the input reads as it did. -/
def fnExactLatticeIndexSpec : ChangeSpec := { name := "fnExactLatticeIndex", fn := fun _ => fun
  | [d] => { results := [.lit (.bool true)], args := [d] }
  | _ => none }
def fnExactLatticeIndexRow : OpenClaim := { program := "ytdeboabifcpdbaa", sum := "ba8030cb02a8655d05e646c84d9a1e5bd7f817913a5a2a4ce820cb646207d6d6", func := "loop.example/g01066/laws.FnExactLatticeIndex", spec := "fnExactLatticeIndex", apart := false }
def FnExactLatticeIndexSaid : Prop := fnExactLatticeIndexRow.holds Try.pinned (OpenSpec.ofChange fnExactLatticeIndexSpec)

/-- ITS FALSE NEIGHBOUR: 'it returns false'. Refute it at one input. -/
def fnExactLatticeIndexWrong : ChangeSpec := { name := "fnExactLatticeIndex", fn := fun _ => fun
  | [d] => { results := [.lit (.bool false)], args := [d] }
  | _ => none }
def FnExactLatticeIndexWrongFalsely : Prop := fnExactLatticeIndexRow.holds Try.pinned (OpenSpec.ofChange fnExactLatticeIndexWrong)

/-- 'laws.FnExactIsSublattice': WHATEVER THE INPUT: true; the input reads as it did. -/
def fnExactIsSublatticeSpec : ChangeSpec := { name := "fnExactIsSublattice", fn := fun _ => fun
  | [d1, d2] => { results := [.lit (.bool true)], args := [d1, d2] }
  | _ => none }
def fnExactIsSublatticeRow : OpenClaim := { program := "ytdeboabifcpdbaa", sum := "ba8030cb02a8655d05e646c84d9a1e5bd7f817913a5a2a4ce820cb646207d6d6", func := "loop.example/g01066/laws.FnExactIsSublattice", spec := "fnExactIsSublattice", apart := false }
def FnExactIsSublatticeSaid : Prop := fnExactIsSublatticeRow.holds Try.pinned (OpenSpec.ofChange fnExactIsSublatticeSpec)

/-- ITS FALSE NEIGHBOUR: 'it returns false'. Refute it at one input. -/
def fnExactIsSublatticeWrong : ChangeSpec := { name := "fnExactIsSublattice", fn := fun _ => fun
  | [d1, d2] => { results := [.lit (.bool false)], args := [d1, d2] }
  | _ => none }
def FnExactIsSublatticeWrongFalsely : Prop := fnExactIsSublatticeRow.holds Try.pinned (OpenSpec.ofChange fnExactIsSublatticeWrong)

/-- 'laws.FnExactIsInLattice': WHATEVER THE INPUT: true; the input reads as it did. -/
def fnExactIsInLatticeSpec : ChangeSpec := { name := "fnExactIsInLattice", fn := fun _ => fun
  | [d1, d2] => { results := [.lit (.bool true)], args := [d1, d2] }
  | _ => none }
def fnExactIsInLatticeRow : OpenClaim := { program := "ytdeboabifcpdbaa", sum := "ba8030cb02a8655d05e646c84d9a1e5bd7f817913a5a2a4ce820cb646207d6d6", func := "loop.example/g01066/laws.FnExactIsInLattice", spec := "fnExactIsInLattice", apart := false }
def FnExactIsInLatticeSaid : Prop := fnExactIsInLatticeRow.holds Try.pinned (OpenSpec.ofChange fnExactIsInLatticeSpec)

/-- ITS FALSE NEIGHBOUR: 'it returns false'. Refute it at one input. -/
def fnExactIsInLatticeWrong : ChangeSpec := { name := "fnExactIsInLattice", fn := fun _ => fun
  | [d1, d2] => { results := [.lit (.bool false)], args := [d1, d2] }
  | _ => none }
def FnExactIsInLatticeWrongFalsely : Prop := fnExactIsInLatticeRow.holds Try.pinned (OpenSpec.ofChange fnExactIsInLatticeWrong)

/-- 'laws.FnExactQuotientFactors': WHATEVER THE INPUT: true; the input reads as it did. -/
def fnExactQuotientFactorsSpec : ChangeSpec := { name := "fnExactQuotientFactors", fn := fun _ => fun
  | [d] => { results := [.lit (.bool true)], args := [d] }
  | _ => none }
def fnExactQuotientFactorsRow : OpenClaim := { program := "ytdeboabifcpdbaa", sum := "ba8030cb02a8655d05e646c84d9a1e5bd7f817913a5a2a4ce820cb646207d6d6", func := "loop.example/g01066/laws.FnExactQuotientFactors", spec := "fnExactQuotientFactors", apart := false }
def FnExactQuotientFactorsSaid : Prop := fnExactQuotientFactorsRow.holds Try.pinned (OpenSpec.ofChange fnExactQuotientFactorsSpec)

/-- ITS FALSE NEIGHBOUR: 'it returns false'. Refute it at one input. -/
def fnExactQuotientFactorsWrong : ChangeSpec := { name := "fnExactQuotientFactors", fn := fun _ => fun
  | [d] => { results := [.lit (.bool false)], args := [d] }
  | _ => none }
def FnExactQuotientFactorsWrongFalsely : Prop := fnExactQuotientFactorsRow.holds Try.pinned (OpenSpec.ofChange fnExactQuotientFactorsWrong)

/-- 'laws.FnExactCosetPoint': WHATEVER THE INPUT: true; the input reads as it did. -/
def fnExactCosetPointSpec : ChangeSpec := { name := "fnExactCosetPoint", fn := fun _ => fun
  | [d1, d2] => { results := [.lit (.bool true)], args := [d1, d2] }
  | _ => none }
def fnExactCosetPointRow : OpenClaim := { program := "ytdeboabifcpdbaa", sum := "ba8030cb02a8655d05e646c84d9a1e5bd7f817913a5a2a4ce820cb646207d6d6", func := "loop.example/g01066/laws.FnExactCosetPoint", spec := "fnExactCosetPoint", apart := false }
def FnExactCosetPointSaid : Prop := fnExactCosetPointRow.holds Try.pinned (OpenSpec.ofChange fnExactCosetPointSpec)

/-- ITS FALSE NEIGHBOUR: 'it returns false'. Refute it at one input. -/
def fnExactCosetPointWrong : ChangeSpec := { name := "fnExactCosetPoint", fn := fun _ => fun
  | [d1, d2] => { results := [.lit (.bool false)], args := [d1, d2] }
  | _ => none }
def FnExactCosetPointWrongFalsely : Prop := fnExactCosetPointRow.holds Try.pinned (OpenSpec.ofChange fnExactCosetPointWrong)

/-- 'laws.FnExactFormOnLattice': WHATEVER THE INPUT: true; the input reads as it did. -/
def fnExactFormOnLatticeSpec : ChangeSpec := { name := "fnExactFormOnLattice", fn := fun _ => fun
  | [d1, d2] => { results := [.lit (.bool true)], args := [d1, d2] }
  | _ => none }
def fnExactFormOnLatticeRow : OpenClaim := { program := "ytdeboabifcpdbaa", sum := "ba8030cb02a8655d05e646c84d9a1e5bd7f817913a5a2a4ce820cb646207d6d6", func := "loop.example/g01066/laws.FnExactFormOnLattice", spec := "fnExactFormOnLattice", apart := false }
def FnExactFormOnLatticeSaid : Prop := fnExactFormOnLatticeRow.holds Try.pinned (OpenSpec.ofChange fnExactFormOnLatticeSpec)

/-- ITS FALSE NEIGHBOUR: 'it returns false'. Refute it at one input. -/
def fnExactFormOnLatticeWrong : ChangeSpec := { name := "fnExactFormOnLattice", fn := fun _ => fun
  | [d1, d2] => { results := [.lit (.bool false)], args := [d1, d2] }
  | _ => none }
def FnExactFormOnLatticeWrongFalsely : Prop := fnExactFormOnLatticeRow.holds Try.pinned (OpenSpec.ofChange fnExactFormOnLatticeWrong)

/-- 'laws.FnExactSublatticesOf': WHATEVER THE INPUT: true; the input reads as it did. -/
def fnExactSublatticesOfSpec : ChangeSpec := { name := "fnExactSublatticesOf", fn := fun _ => fun
  | [d] => { results := [.lit (.bool true)], args := [d] }
  | _ => none }
def fnExactSublatticesOfRow : OpenClaim := { program := "ytdeboabifcpdbaa", sum := "ba8030cb02a8655d05e646c84d9a1e5bd7f817913a5a2a4ce820cb646207d6d6", func := "loop.example/g01066/laws.FnExactSublatticesOf", spec := "fnExactSublatticesOf", apart := false }
def FnExactSublatticesOfSaid : Prop := fnExactSublatticesOfRow.holds Try.pinned (OpenSpec.ofChange fnExactSublatticesOfSpec)

/-- ITS FALSE NEIGHBOUR: 'it returns false'. Refute it at one input. -/
def fnExactSublatticesOfWrong : ChangeSpec := { name := "fnExactSublatticesOf", fn := fun _ => fun
  | [d] => { results := [.lit (.bool false)], args := [d] }
  | _ => none }
def FnExactSublatticesOfWrongFalsely : Prop := fnExactSublatticesOfRow.holds Try.pinned (OpenSpec.ofChange fnExactSublatticesOfWrong)

/-- 'laws.FnExactSublatticeMatrices': WHATEVER THE INPUT: true; the input reads as it did. -/
def fnExactSublatticeMatricesSpec : ChangeSpec := { name := "fnExactSublatticeMatrices", fn := fun _ => fun
  | [d] => { results := [.lit (.bool true)], args := [d] }
  | _ => none }
def fnExactSublatticeMatricesRow : OpenClaim := { program := "ytdeboabifcpdbaa", sum := "ba8030cb02a8655d05e646c84d9a1e5bd7f817913a5a2a4ce820cb646207d6d6", func := "loop.example/g01066/laws.FnExactSublatticeMatrices", spec := "fnExactSublatticeMatrices", apart := false }
def FnExactSublatticeMatricesSaid : Prop := fnExactSublatticeMatricesRow.holds Try.pinned (OpenSpec.ofChange fnExactSublatticeMatricesSpec)

/-- ITS FALSE NEIGHBOUR: 'it returns false'. Refute it at one input. -/
def fnExactSublatticeMatricesWrong : ChangeSpec := { name := "fnExactSublatticeMatrices", fn := fun _ => fun
  | [d] => { results := [.lit (.bool false)], args := [d] }
  | _ => none }
def FnExactSublatticeMatricesWrongFalsely : Prop := fnExactSublatticeMatricesRow.holds Try.pinned (OpenSpec.ofChange fnExactSublatticeMatricesWrong)

/-- 'laws.FnExactMeetOfLattices': WHATEVER THE INPUT: true; the input reads as it did. -/
def fnExactMeetOfLatticesSpec : ChangeSpec := { name := "fnExactMeetOfLattices", fn := fun _ => fun
  | [d1, d2] => { results := [.lit (.bool true)], args := [d1, d2] }
  | _ => none }
def fnExactMeetOfLatticesRow : OpenClaim := { program := "ytdeboabifcpdbaa", sum := "ba8030cb02a8655d05e646c84d9a1e5bd7f817913a5a2a4ce820cb646207d6d6", func := "loop.example/g01066/laws.FnExactMeetOfLattices", spec := "fnExactMeetOfLattices", apart := false }
def FnExactMeetOfLatticesSaid : Prop := fnExactMeetOfLatticesRow.holds Try.pinned (OpenSpec.ofChange fnExactMeetOfLatticesSpec)

/-- ITS FALSE NEIGHBOUR: 'it returns false'. Refute it at one input. -/
def fnExactMeetOfLatticesWrong : ChangeSpec := { name := "fnExactMeetOfLattices", fn := fun _ => fun
  | [d1, d2] => { results := [.lit (.bool false)], args := [d1, d2] }
  | _ => none }
def FnExactMeetOfLatticesWrongFalsely : Prop := fnExactMeetOfLatticesRow.holds Try.pinned (OpenSpec.ofChange fnExactMeetOfLatticesWrong)

/-- 'laws.FnExactSumOfLattices': WHATEVER THE INPUT: true; the input reads as it did. -/
def fnExactSumOfLatticesSpec : ChangeSpec := { name := "fnExactSumOfLattices", fn := fun _ => fun
  | [d1, d2] => { results := [.lit (.bool true)], args := [d1, d2] }
  | _ => none }
def fnExactSumOfLatticesRow : OpenClaim := { program := "ytdeboabifcpdbaa", sum := "ba8030cb02a8655d05e646c84d9a1e5bd7f817913a5a2a4ce820cb646207d6d6", func := "loop.example/g01066/laws.FnExactSumOfLattices", spec := "fnExactSumOfLattices", apart := false }
def FnExactSumOfLatticesSaid : Prop := fnExactSumOfLatticesRow.holds Try.pinned (OpenSpec.ofChange fnExactSumOfLatticesSpec)

/-- ITS FALSE NEIGHBOUR: 'it returns false'. Refute it at one input. -/
def fnExactSumOfLatticesWrong : ChangeSpec := { name := "fnExactSumOfLattices", fn := fun _ => fun
  | [d1, d2] => { results := [.lit (.bool false)], args := [d1, d2] }
  | _ => none }
def FnExactSumOfLatticesWrongFalsely : Prop := fnExactSumOfLatticesRow.holds Try.pinned (OpenSpec.ofChange fnExactSumOfLatticesWrong)

/-- 'laws.FnExactLatticeOf': WHATEVER THE INPUT: true; the input reads as it did. -/
def fnExactLatticeOfSpec : ChangeSpec := { name := "fnExactLatticeOf", fn := fun _ => fun
  | [d] => { results := [.lit (.bool true)], args := [d] }
  | _ => none }
def fnExactLatticeOfRow : OpenClaim := { program := "ytdeboabifcpdbaa", sum := "ba8030cb02a8655d05e646c84d9a1e5bd7f817913a5a2a4ce820cb646207d6d6", func := "loop.example/g01066/laws.FnExactLatticeOf", spec := "fnExactLatticeOf", apart := false }
def FnExactLatticeOfSaid : Prop := fnExactLatticeOfRow.holds Try.pinned (OpenSpec.ofChange fnExactLatticeOfSpec)

/-- ITS FALSE NEIGHBOUR: 'it returns false'. Refute it at one input. -/
def fnExactLatticeOfWrong : ChangeSpec := { name := "fnExactLatticeOf", fn := fun _ => fun
  | [d] => { results := [.lit (.bool false)], args := [d] }
  | _ => none }
def FnExactLatticeOfWrongFalsely : Prop := fnExactLatticeOfRow.holds Try.pinned (OpenSpec.ofChange fnExactLatticeOfWrong)

/- THE SECOND FORM. 'bulk': how many values and letters a reading holds, each counted each time it is reached (what is shared counts as often as it is met; a slice's spare places count too). A statement '..UptoSaid' is the law's where the arguments, and the package variables that the reading takes, are together of bulk at most 1048576: NARROWER than '..Said'. Prove '..Said' where nothing that the law and all that it calls make is longer than what came in: it says more and counts as full. Else prove '..UptoSaid'. A law counts once. -/
mutual
def uptoBulk {H : Type} : DataW H → Nat
  | .lit (.string bytes) => bytes.length + 1
  | .lit _ => 1
  | .nil => 1
  | .ptr d => uptoBulk d + 1
  | .slice elems spare => uptoBulkAll elems + uptoBulkAll spare + 1
  | .agg parts => uptoBulkAll parts + 1
  | .iface _ d => uptoBulk d + 1
  | .map entries => uptoBulkEntries entries + 1
  | .held _ => 1
def uptoBulkAll {H : Type} : List (DataW H) → Nat
  | [] => 0
  | d :: r => uptoBulk d + uptoBulkAll r
def uptoBulkEntries {H : Type} : List (Lit × DataW H) → Nat
  | [] => 0
  | x :: r => uptoBulkEntry x + uptoBulkEntries r
def uptoBulkEntry {H : Type} : Lit × DataW H → Nat
  | (.string bytes, d) => bytes.length + uptoBulk d + 1
  | (_, d) => uptoBulk d + 1
 end
def uptoSmall : (H : Type) → List (DataW H) → Bool := fun _ ds => decide (uptoBulkAll ds ≤ 1048576)
def OpenSpec.upto (s : _root_.Go.ChangeSpec) : _root_.Go.OpenSpec := { _root_.Go.OpenSpec.ofChange s with cond := some uptoSmall }

/-- 'laws.FnExactIsLattice', WHERE WHAT IT READS IS OF BULK AT MOST 1048576: true; the input reads as it did. -/
def fnExactIsLatticeUptoRow : OpenClaim := { program := "ytdeboabifcpdbaa", sum := "ba8030cb02a8655d05e646c84d9a1e5bd7f817913a5a2a4ce820cb646207d6d6", func := "loop.example/g01066/laws.FnExactIsLattice", spec := "fnExactIsLattice", apart := false, narrowed := true }
def FnExactIsLatticeUptoSaid : Prop := fnExactIsLatticeUptoRow.holds Try.pinned (OpenSpec.upto fnExactIsLatticeSpec)

/-- 'laws.FnExactLatticeIndex', WHERE WHAT IT READS IS OF BULK AT MOST 1048576: true; the input reads as it did. -/
def fnExactLatticeIndexUptoRow : OpenClaim := { program := "ytdeboabifcpdbaa", sum := "ba8030cb02a8655d05e646c84d9a1e5bd7f817913a5a2a4ce820cb646207d6d6", func := "loop.example/g01066/laws.FnExactLatticeIndex", spec := "fnExactLatticeIndex", apart := false, narrowed := true }
def FnExactLatticeIndexUptoSaid : Prop := fnExactLatticeIndexUptoRow.holds Try.pinned (OpenSpec.upto fnExactLatticeIndexSpec)

/-- 'laws.FnExactIsSublattice', WHERE WHAT IT READS IS OF BULK AT MOST 1048576: true; the input reads as it did. -/
def fnExactIsSublatticeUptoRow : OpenClaim := { program := "ytdeboabifcpdbaa", sum := "ba8030cb02a8655d05e646c84d9a1e5bd7f817913a5a2a4ce820cb646207d6d6", func := "loop.example/g01066/laws.FnExactIsSublattice", spec := "fnExactIsSublattice", apart := false, narrowed := true }
def FnExactIsSublatticeUptoSaid : Prop := fnExactIsSublatticeUptoRow.holds Try.pinned (OpenSpec.upto fnExactIsSublatticeSpec)

/-- 'laws.FnExactIsInLattice', WHERE WHAT IT READS IS OF BULK AT MOST 1048576: true; the input reads as it did. -/
def fnExactIsInLatticeUptoRow : OpenClaim := { program := "ytdeboabifcpdbaa", sum := "ba8030cb02a8655d05e646c84d9a1e5bd7f817913a5a2a4ce820cb646207d6d6", func := "loop.example/g01066/laws.FnExactIsInLattice", spec := "fnExactIsInLattice", apart := false, narrowed := true }
def FnExactIsInLatticeUptoSaid : Prop := fnExactIsInLatticeUptoRow.holds Try.pinned (OpenSpec.upto fnExactIsInLatticeSpec)

/-- 'laws.FnExactQuotientFactors', WHERE WHAT IT READS IS OF BULK AT MOST 1048576: true; the input reads as it did. -/
def fnExactQuotientFactorsUptoRow : OpenClaim := { program := "ytdeboabifcpdbaa", sum := "ba8030cb02a8655d05e646c84d9a1e5bd7f817913a5a2a4ce820cb646207d6d6", func := "loop.example/g01066/laws.FnExactQuotientFactors", spec := "fnExactQuotientFactors", apart := false, narrowed := true }
def FnExactQuotientFactorsUptoSaid : Prop := fnExactQuotientFactorsUptoRow.holds Try.pinned (OpenSpec.upto fnExactQuotientFactorsSpec)

/-- 'laws.FnExactCosetPoint', WHERE WHAT IT READS IS OF BULK AT MOST 1048576: true; the input reads as it did. -/
def fnExactCosetPointUptoRow : OpenClaim := { program := "ytdeboabifcpdbaa", sum := "ba8030cb02a8655d05e646c84d9a1e5bd7f817913a5a2a4ce820cb646207d6d6", func := "loop.example/g01066/laws.FnExactCosetPoint", spec := "fnExactCosetPoint", apart := false, narrowed := true }
def FnExactCosetPointUptoSaid : Prop := fnExactCosetPointUptoRow.holds Try.pinned (OpenSpec.upto fnExactCosetPointSpec)

/-- 'laws.FnExactFormOnLattice', WHERE WHAT IT READS IS OF BULK AT MOST 1048576: true; the input reads as it did. -/
def fnExactFormOnLatticeUptoRow : OpenClaim := { program := "ytdeboabifcpdbaa", sum := "ba8030cb02a8655d05e646c84d9a1e5bd7f817913a5a2a4ce820cb646207d6d6", func := "loop.example/g01066/laws.FnExactFormOnLattice", spec := "fnExactFormOnLattice", apart := false, narrowed := true }
def FnExactFormOnLatticeUptoSaid : Prop := fnExactFormOnLatticeUptoRow.holds Try.pinned (OpenSpec.upto fnExactFormOnLatticeSpec)

/-- 'laws.FnExactSublatticesOf', WHERE WHAT IT READS IS OF BULK AT MOST 1048576: true; the input reads as it did. -/
def fnExactSublatticesOfUptoRow : OpenClaim := { program := "ytdeboabifcpdbaa", sum := "ba8030cb02a8655d05e646c84d9a1e5bd7f817913a5a2a4ce820cb646207d6d6", func := "loop.example/g01066/laws.FnExactSublatticesOf", spec := "fnExactSublatticesOf", apart := false, narrowed := true }
def FnExactSublatticesOfUptoSaid : Prop := fnExactSublatticesOfUptoRow.holds Try.pinned (OpenSpec.upto fnExactSublatticesOfSpec)

/-- 'laws.FnExactSublatticeMatrices', WHERE WHAT IT READS IS OF BULK AT MOST 1048576: true; the input reads as it did. -/
def fnExactSublatticeMatricesUptoRow : OpenClaim := { program := "ytdeboabifcpdbaa", sum := "ba8030cb02a8655d05e646c84d9a1e5bd7f817913a5a2a4ce820cb646207d6d6", func := "loop.example/g01066/laws.FnExactSublatticeMatrices", spec := "fnExactSublatticeMatrices", apart := false, narrowed := true }
def FnExactSublatticeMatricesUptoSaid : Prop := fnExactSublatticeMatricesUptoRow.holds Try.pinned (OpenSpec.upto fnExactSublatticeMatricesSpec)

/-- 'laws.FnExactMeetOfLattices', WHERE WHAT IT READS IS OF BULK AT MOST 1048576: true; the input reads as it did. -/
def fnExactMeetOfLatticesUptoRow : OpenClaim := { program := "ytdeboabifcpdbaa", sum := "ba8030cb02a8655d05e646c84d9a1e5bd7f817913a5a2a4ce820cb646207d6d6", func := "loop.example/g01066/laws.FnExactMeetOfLattices", spec := "fnExactMeetOfLattices", apart := false, narrowed := true }
def FnExactMeetOfLatticesUptoSaid : Prop := fnExactMeetOfLatticesUptoRow.holds Try.pinned (OpenSpec.upto fnExactMeetOfLatticesSpec)

/-- 'laws.FnExactSumOfLattices', WHERE WHAT IT READS IS OF BULK AT MOST 1048576: true; the input reads as it did. -/
def fnExactSumOfLatticesUptoRow : OpenClaim := { program := "ytdeboabifcpdbaa", sum := "ba8030cb02a8655d05e646c84d9a1e5bd7f817913a5a2a4ce820cb646207d6d6", func := "loop.example/g01066/laws.FnExactSumOfLattices", spec := "fnExactSumOfLattices", apart := false, narrowed := true }
def FnExactSumOfLatticesUptoSaid : Prop := fnExactSumOfLatticesUptoRow.holds Try.pinned (OpenSpec.upto fnExactSumOfLatticesSpec)

/-- 'laws.FnExactLatticeOf', WHERE WHAT IT READS IS OF BULK AT MOST 1048576: true; the input reads as it did. -/
def fnExactLatticeOfUptoRow : OpenClaim := { program := "ytdeboabifcpdbaa", sum := "ba8030cb02a8655d05e646c84d9a1e5bd7f817913a5a2a4ce820cb646207d6d6", func := "loop.example/g01066/laws.FnExactLatticeOf", spec := "fnExactLatticeOf", apart := false, narrowed := true }
def FnExactLatticeOfUptoSaid : Prop := fnExactLatticeOfUptoRow.holds Try.pinned (OpenSpec.upto fnExactLatticeOfSpec)

end Rows
end Go.Proofs.Ytdeboabifcpdbaa
