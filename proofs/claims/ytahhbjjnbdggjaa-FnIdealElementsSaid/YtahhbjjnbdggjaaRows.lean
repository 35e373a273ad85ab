/-
  No cell of these rows narrows 'for every input' (looked for: loops, veiled, ifaces, maps, wideKeys, modest, calm, conditions, laid).
  DERIVED. THE GIVEN ROWS OF THIS SEAT. 8 by the template 'for every input the law returns true; each argument reads behind the call as it read before'; 0 by the template 'total and deterministic' (their statements: YtahhbjjnbdggjaaTotals.lean).
  GIVEN WITH THE SEED: the statements are not yours to turn. If you find one false, say at which input.
  Laid BY PROGRAM, IN A SANDBOX (cutbox-rows.mjs): the forced cells as the released guide's own fill.sh prints them over the translation ab9a8bac4cec5fac… (all of the seat's roots in one cut). By AI agents, Wed Nov 11 2026. No macro, syntax, notation, axiom, sorry.
-/
import Derived.Test.YtahhbjjnbdggjaaChecked
import GoSem.Claim
import GoSem.ClaimJoined
import GoSem.ClaimMapViews
import Derived.JoinedTies
import Derived.KernelRfl
namespace Go.Proofs.Ytahhbjjnbdggjaa
/- THE CELL 'sum', in the pinned program and in every row, IS THE sha256 OF THE DUMP (.gsa) THAT YtahhbjjnbdggjaaProg.lean LOADS. Nothing in Lean hashes anything: it is a label: what it is worth is what the hold of that sum in a sandbox is worth. -/
noncomputable def Try.pinned : Pinned := { name := "ytahhbjjnbdggjaa", sum := "ab9a8bac4cec5fac0d206b4f4ec9d2882fc7f4b3f7f613d4c343eea67c96b9c4", checked := Try.checked }
namespace Rows
def none {H : Type} : Left H := { results := [], args := [] }

/-- 'laws.FnExactFormOfIdeal': WHATEVER THE INPUT: true; the input reads as it did. -/
def fnExactFormOfIdealSpec : ChangeSpec := { name := "fnExactFormOfIdeal", fn := fun _ => fun
  | [d1, d2] => { results := [.lit (.bool true)], args := [d1, d2] }
  | _ => none }
def fnExactFormOfIdealRow : OpenClaim := { program := "ytahhbjjnbdggjaa", sum := "ab9a8bac4cec5fac0d206b4f4ec9d2882fc7f4b3f7f613d4c343eea67c96b9c4", func := "loop.example/g01066/laws.FnExactFormOfIdeal", spec := "fnExactFormOfIdeal", apart := false }
def FnExactFormOfIdealSaid : Prop := fnExactFormOfIdealRow.holds Try.pinned (OpenSpec.ofChange fnExactFormOfIdealSpec)

/-- ITS FALSE NEIGHBOUR: 'it returns false'. Refute it at one input. -/
def fnExactFormOfIdealWrong : ChangeSpec := { name := "fnExactFormOfIdeal", fn := fun _ => fun
  | [d1, d2] => { results := [.lit (.bool false)], args := [d1, d2] }
  | _ => none }
def FnExactFormOfIdealWrongFalsely : Prop := fnExactFormOfIdealRow.holds Try.pinned (OpenSpec.ofChange fnExactFormOfIdealWrong)

/-- 'laws.FnExactHasElement': WHATEVER THE INPUT: true; the input reads as it did. -/
def fnExactHasElementSpec : ChangeSpec := { name := "fnExactHasElement", fn := fun _ => fun
  | [d1, d2, d3, d4] => { results := [.lit (.bool true)], args := [d1, d2, d3, d4] }
  | _ => none }
def fnExactHasElementRow : OpenClaim := { program := "ytahhbjjnbdggjaa", sum := "ab9a8bac4cec5fac0d206b4f4ec9d2882fc7f4b3f7f613d4c343eea67c96b9c4", func := "loop.example/g01066/laws.FnExactHasElement", spec := "fnExactHasElement", apart := false }
def FnExactHasElementSaid : Prop := fnExactHasElementRow.holds Try.pinned (OpenSpec.ofChange fnExactHasElementSpec)

/-- ITS FALSE NEIGHBOUR: 'it returns false'. Refute it at one input. -/
def fnExactHasElementWrong : ChangeSpec := { name := "fnExactHasElement", fn := fun _ => fun
  | [d1, d2, d3, d4] => { results := [.lit (.bool false)], args := [d1, d2, d3, d4] }
  | _ => none }
def FnExactHasElementWrongFalsely : Prop := fnExactHasElementRow.holds Try.pinned (OpenSpec.ofChange fnExactHasElementWrong)

/-- 'laws.FnExactContainsIdeal': WHATEVER THE INPUT: true; the input reads as it did. -/
def fnExactContainsIdealSpec : ChangeSpec := { name := "fnExactContainsIdeal", fn := fun _ => fun
  | [d1, d2, d3] => { results := [.lit (.bool true)], args := [d1, d2, d3] }
  | _ => none }
def fnExactContainsIdealRow : OpenClaim := { program := "ytahhbjjnbdggjaa", sum := "ab9a8bac4cec5fac0d206b4f4ec9d2882fc7f4b3f7f613d4c343eea67c96b9c4", func := "loop.example/g01066/laws.FnExactContainsIdeal", spec := "fnExactContainsIdeal", apart := false }
def FnExactContainsIdealSaid : Prop := fnExactContainsIdealRow.holds Try.pinned (OpenSpec.ofChange fnExactContainsIdealSpec)

/-- ITS FALSE NEIGHBOUR: 'it returns false'. Refute it at one input. -/
def fnExactContainsIdealWrong : ChangeSpec := { name := "fnExactContainsIdeal", fn := fun _ => fun
  | [d1, d2, d3] => { results := [.lit (.bool false)], args := [d1, d2, d3] }
  | _ => none }
def FnExactContainsIdealWrongFalsely : Prop := fnExactContainsIdealRow.holds Try.pinned (OpenSpec.ofChange fnExactContainsIdealWrong)

/-- 'laws.FnExactIsInvertible': WHATEVER THE INPUT: true; the input reads as it did. -/
def fnExactIsInvertibleSpec : ChangeSpec := { name := "fnExactIsInvertible", fn := fun _ => fun
  | [d1, d2] => { results := [.lit (.bool true)], args := [d1, d2] }
  | _ => none }
def fnExactIsInvertibleRow : OpenClaim := { program := "ytahhbjjnbdggjaa", sum := "ab9a8bac4cec5fac0d206b4f4ec9d2882fc7f4b3f7f613d4c343eea67c96b9c4", func := "loop.example/g01066/laws.FnExactIsInvertible", spec := "fnExactIsInvertible", apart := false }
def FnExactIsInvertibleSaid : Prop := fnExactIsInvertibleRow.holds Try.pinned (OpenSpec.ofChange fnExactIsInvertibleSpec)

/-- ITS FALSE NEIGHBOUR: 'it returns false'. Refute it at one input. -/
def fnExactIsInvertibleWrong : ChangeSpec := { name := "fnExactIsInvertible", fn := fun _ => fun
  | [d1, d2] => { results := [.lit (.bool false)], args := [d1, d2] }
  | _ => none }
def FnExactIsInvertibleWrongFalsely : Prop := fnExactIsInvertibleRow.holds Try.pinned (OpenSpec.ofChange fnExactIsInvertibleWrong)

/-- 'laws.FnExactIdealSum': WHATEVER THE INPUT: true; the input reads as it did. -/
def fnExactIdealSumSpec : ChangeSpec := { name := "fnExactIdealSum", fn := fun _ => fun
  | [d1, d2, d3] => { results := [.lit (.bool true)], args := [d1, d2, d3] }
  | _ => none }
def fnExactIdealSumRow : OpenClaim := { program := "ytahhbjjnbdggjaa", sum := "ab9a8bac4cec5fac0d206b4f4ec9d2882fc7f4b3f7f613d4c343eea67c96b9c4", func := "loop.example/g01066/laws.FnExactIdealSum", spec := "fnExactIdealSum", apart := false }
def FnExactIdealSumSaid : Prop := fnExactIdealSumRow.holds Try.pinned (OpenSpec.ofChange fnExactIdealSumSpec)

/-- ITS FALSE NEIGHBOUR: 'it returns false'. Refute it at one input. -/
def fnExactIdealSumWrong : ChangeSpec := { name := "fnExactIdealSum", fn := fun _ => fun
  | [d1, d2, d3] => { results := [.lit (.bool false)], args := [d1, d2, d3] }
  | _ => none }
def FnExactIdealSumWrongFalsely : Prop := fnExactIdealSumRow.holds Try.pinned (OpenSpec.ofChange fnExactIdealSumWrong)

/-- 'laws.FnExactPrincipalIdeal': WHATEVER THE INPUT: true; the input reads as it did. -/
def fnExactPrincipalIdealSpec : ChangeSpec := { name := "fnExactPrincipalIdeal", fn := fun _ => fun
  | [d1, d2, d3] => { results := [.lit (.bool true)], args := [d1, d2, d3] }
  | _ => none }
def fnExactPrincipalIdealRow : OpenClaim := { program := "ytahhbjjnbdggjaa", sum := "ab9a8bac4cec5fac0d206b4f4ec9d2882fc7f4b3f7f613d4c343eea67c96b9c4", func := "loop.example/g01066/laws.FnExactPrincipalIdeal", spec := "fnExactPrincipalIdeal", apart := false }
def FnExactPrincipalIdealSaid : Prop := fnExactPrincipalIdealRow.holds Try.pinned (OpenSpec.ofChange fnExactPrincipalIdealSpec)

/-- ITS FALSE NEIGHBOUR: 'it returns false'. Refute it at one input. -/
def fnExactPrincipalIdealWrong : ChangeSpec := { name := "fnExactPrincipalIdeal", fn := fun _ => fun
  | [d1, d2, d3] => { results := [.lit (.bool false)], args := [d1, d2, d3] }
  | _ => none }
def FnExactPrincipalIdealWrongFalsely : Prop := fnExactPrincipalIdealRow.holds Try.pinned (OpenSpec.ofChange fnExactPrincipalIdealWrong)

/-- 'laws.FnExactIdealProduct': WHATEVER THE INPUT: true; the input reads as it did. -/
def fnExactIdealProductSpec : ChangeSpec := { name := "fnExactIdealProduct", fn := fun _ => fun
  | [d1, d2, d3] => { results := [.lit (.bool true)], args := [d1, d2, d3] }
  | _ => none }
def fnExactIdealProductRow : OpenClaim := { program := "ytahhbjjnbdggjaa", sum := "ab9a8bac4cec5fac0d206b4f4ec9d2882fc7f4b3f7f613d4c343eea67c96b9c4", func := "loop.example/g01066/laws.FnExactIdealProduct", spec := "fnExactIdealProduct", apart := false }
def FnExactIdealProductSaid : Prop := fnExactIdealProductRow.holds Try.pinned (OpenSpec.ofChange fnExactIdealProductSpec)

/-- ITS FALSE NEIGHBOUR: 'it returns false'. Refute it at one input. -/
def fnExactIdealProductWrong : ChangeSpec := { name := "fnExactIdealProduct", fn := fun _ => fun
  | [d1, d2, d3] => { results := [.lit (.bool false)], args := [d1, d2, d3] }
  | _ => none }
def FnExactIdealProductWrongFalsely : Prop := fnExactIdealProductRow.holds Try.pinned (OpenSpec.ofChange fnExactIdealProductWrong)

/-- 'laws.FnIdealElements': WHATEVER THE INPUT: true; the input reads as it did. -/
def fnIdealElementsSpec : ChangeSpec := { name := "fnIdealElements", fn := fun _ => fun
  | [d1, d2] => { results := [.lit (.bool true)], args := [d1, d2] }
  | _ => none }
def fnIdealElementsRow : OpenClaim := { program := "ytahhbjjnbdggjaa", sum := "ab9a8bac4cec5fac0d206b4f4ec9d2882fc7f4b3f7f613d4c343eea67c96b9c4", func := "loop.example/g01066/laws.FnIdealElements", spec := "fnIdealElements", apart := false }
def FnIdealElementsSaid : Prop := fnIdealElementsRow.holds Try.pinned (OpenSpec.ofChange fnIdealElementsSpec)

/-- ITS FALSE NEIGHBOUR: 'it returns false'. Refute it at one input. -/
def fnIdealElementsWrong : ChangeSpec := { name := "fnIdealElements", fn := fun _ => fun
  | [d1, d2] => { results := [.lit (.bool false)], args := [d1, d2] }
  | _ => none }
def FnIdealElementsWrongFalsely : Prop := fnIdealElementsRow.holds Try.pinned (OpenSpec.ofChange fnIdealElementsWrong)

/- THE SECOND FORM. 'bulk': how many values and letters a reading holds, each counted each time it is reached (what is shared counts as often as it is met; a slice's spare places count too). A statement '..UptoSaid' is the law's where the arguments, and the package variables that the reading takes, are together of bulk at most 1048576: NARROWER than '..Said'. Prove '..Said' where nothing that the law and all that it calls make is longer than what came in: it says more and counts as full. Else prove '..UptoSaid'. A law counts once. -/
mutual
def uptoBulk {H : Type} : DataW H → Nat
  | .lit (.string bytes) => bytes.length + 1
  | .lit _ => 1
  | .nil => 1
  | .ptr d => uptoBulk d + 1
  | .slice elems spare => uptoBulkAll elems + uptoBulkAll spare + 1
  | .agg parts => uptoBulkAll parts + 1
  | .iface _ d => uptoBulk d + 1
  | .map entries => uptoBulkEntries entries + 1
  | .held _ => 1
def uptoBulkAll {H : Type} : List (DataW H) → Nat
  | [] => 0
  | d :: r => uptoBulk d + uptoBulkAll r
def uptoBulkEntries {H : Type} : List (Lit × DataW H) → Nat
  | [] => 0
  | x :: r => uptoBulkEntry x + uptoBulkEntries r
def uptoBulkEntry {H : Type} : Lit × DataW H → Nat
  | (.string bytes, d) => bytes.length + uptoBulk d + 1
  | (_, d) => uptoBulk d + 1
 end
def uptoSmall : (H : Type) → List (DataW H) → Bool := fun _ ds => decide (uptoBulkAll ds ≤ 1048576)
def OpenSpec.upto (s : _root_.Go.ChangeSpec) : _root_.Go.OpenSpec := { _root_.Go.OpenSpec.ofChange s with cond := some uptoSmall }

/-- 'laws.FnExactFormOfIdeal', WHERE WHAT IT READS IS OF BULK AT MOST 1048576: true; the input reads as it did. -/
def fnExactFormOfIdealUptoRow : OpenClaim := { program := "ytahhbjjnbdggjaa", sum := "ab9a8bac4cec5fac0d206b4f4ec9d2882fc7f4b3f7f613d4c343eea67c96b9c4", func := "loop.example/g01066/laws.FnExactFormOfIdeal", spec := "fnExactFormOfIdeal", apart := false, narrowed := true }
def FnExactFormOfIdealUptoSaid : Prop := fnExactFormOfIdealUptoRow.holds Try.pinned (OpenSpec.upto fnExactFormOfIdealSpec)

/-- 'laws.FnExactHasElement', WHERE WHAT IT READS IS OF BULK AT MOST 1048576: true; the input reads as it did. -/
def fnExactHasElementUptoRow : OpenClaim := { program := "ytahhbjjnbdggjaa", sum := "ab9a8bac4cec5fac0d206b4f4ec9d2882fc7f4b3f7f613d4c343eea67c96b9c4", func := "loop.example/g01066/laws.FnExactHasElement", spec := "fnExactHasElement", apart := false, narrowed := true }
def FnExactHasElementUptoSaid : Prop := fnExactHasElementUptoRow.holds Try.pinned (OpenSpec.upto fnExactHasElementSpec)

/-- 'laws.FnExactContainsIdeal', WHERE WHAT IT READS IS OF BULK AT MOST 1048576: true; the input reads as it did. -/
def fnExactContainsIdealUptoRow : OpenClaim := { program := "ytahhbjjnbdggjaa", sum := "ab9a8bac4cec5fac0d206b4f4ec9d2882fc7f4b3f7f613d4c343eea67c96b9c4", func := "loop.example/g01066/laws.FnExactContainsIdeal", spec := "fnExactContainsIdeal", apart := false, narrowed := true }
def FnExactContainsIdealUptoSaid : Prop := fnExactContainsIdealUptoRow.holds Try.pinned (OpenSpec.upto fnExactContainsIdealSpec)

/-- 'laws.FnExactIsInvertible', WHERE WHAT IT READS IS OF BULK AT MOST 1048576: true; the input reads as it did. -/
def fnExactIsInvertibleUptoRow : OpenClaim := { program := "ytahhbjjnbdggjaa", sum := "ab9a8bac4cec5fac0d206b4f4ec9d2882fc7f4b3f7f613d4c343eea67c96b9c4", func := "loop.example/g01066/laws.FnExactIsInvertible", spec := "fnExactIsInvertible", apart := false, narrowed := true }
def FnExactIsInvertibleUptoSaid : Prop := fnExactIsInvertibleUptoRow.holds Try.pinned (OpenSpec.upto fnExactIsInvertibleSpec)

/-- 'laws.FnExactIdealSum', WHERE WHAT IT READS IS OF BULK AT MOST 1048576: true; the input reads as it did. -/
def fnExactIdealSumUptoRow : OpenClaim := { program := "ytahhbjjnbdggjaa", sum := "ab9a8bac4cec5fac0d206b4f4ec9d2882fc7f4b3f7f613d4c343eea67c96b9c4", func := "loop.example/g01066/laws.FnExactIdealSum", spec := "fnExactIdealSum", apart := false, narrowed := true }
def FnExactIdealSumUptoSaid : Prop := fnExactIdealSumUptoRow.holds Try.pinned (OpenSpec.upto fnExactIdealSumSpec)

/-- 'laws.FnExactPrincipalIdeal', WHERE WHAT IT READS IS OF BULK AT MOST 1048576: true; the input reads as it did. -/
def fnExactPrincipalIdealUptoRow : OpenClaim := { program := "ytahhbjjnbdggjaa", sum := "ab9a8bac4cec5fac0d206b4f4ec9d2882fc7f4b3f7f613d4c343eea67c96b9c4", func := "loop.example/g01066/laws.FnExactPrincipalIdeal", spec := "fnExactPrincipalIdeal", apart := false, narrowed := true }
def FnExactPrincipalIdealUptoSaid : Prop := fnExactPrincipalIdealUptoRow.holds Try.pinned (OpenSpec.upto fnExactPrincipalIdealSpec)

/-- 'laws.FnExactIdealProduct', WHERE WHAT IT READS IS OF BULK AT MOST 1048576: true; the input reads as it did. -/
def fnExactIdealProductUptoRow : OpenClaim := { program := "ytahhbjjnbdggjaa", sum := "ab9a8bac4cec5fac0d206b4f4ec9d2882fc7f4b3f7f613d4c343eea67c96b9c4", func := "loop.example/g01066/laws.FnExactIdealProduct", spec := "fnExactIdealProduct", apart := false, narrowed := true }
def FnExactIdealProductUptoSaid : Prop := fnExactIdealProductUptoRow.holds Try.pinned (OpenSpec.upto fnExactIdealProductSpec)

/-- 'laws.FnIdealElements', WHERE WHAT IT READS IS OF BULK AT MOST 1048576: true; the input reads as it did. -/
def fnIdealElementsUptoRow : OpenClaim := { program := "ytahhbjjnbdggjaa", sum := "ab9a8bac4cec5fac0d206b4f4ec9d2882fc7f4b3f7f613d4c343eea67c96b9c4", func := "loop.example/g01066/laws.FnIdealElements", spec := "fnIdealElements", apart := false, narrowed := true }
def FnIdealElementsUptoSaid : Prop := fnIdealElementsUptoRow.holds Try.pinned (OpenSpec.upto fnIdealElementsSpec)

end Rows
end Go.Proofs.Ytahhbjjnbdggjaa
