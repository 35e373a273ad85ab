/-
  DERIVED. GIVEN WITH THE SEED: THE CARDS: each row of YtlfbanoabipacaaDoorRows.lean that lists a variable, with what it lists TIED to the program's text (the seventh form; the later family's looks); each row that meets fmt, with fmt's text TOLD by the authors' own Lean function (tested against real Go, not proved from fmt's source: count such statements apart). THE CARD IS WHAT COUNTS. Prove the row's statement (the work); the ties are given (YtlfbanoabipacaaDoorTie.lean); close each card by the builder's one call (the guide's Derived/Test/ToyasCard.lean, 'card_holds'). Laid BY PROGRAM, IN A SANDBOX (cutbox-door.mjs). By AI agents, Wed Nov 11 2026. No macro, syntax, notation, axiom, sorry.
-/
import Derived.Test.YtlfbanoabipacaaDoorRows
import GoSem.ClaimSeven
namespace Go.Proofs.YtlfbanoabipacaaDoor
namespace Rows

/-- THE TIED CARD OF 'laws.FnExactParseCube'. -/
def fnExactParseCubeCard : Claim7 := { stood := { row := fnExactParseCubeRow, standIns := [], harness := (true, "7ad9632144d44df5417e43185faf70d4b87e82a3bec4a3e843c183b3aeb87a49"), looks := true }, kinds := [], alts := [], laidByText := true, laidKinds := [.data, .data, .data, .sentinel, .sentinel], laidTests := true, laidLooks := .later }
def FnExactParseCubeCardSaid : Prop := Claim7.holds Tryd.pinned (.plain (OpenSpec.ofChange fnExactParseCubeSpec)) fnExactParseCubeCard

/-- THE TIED CARD OF 'laws.FnExactCubeText'. -/
def fnExactCubeTextCard : Claim7 := { stood := { row := fnExactCubeTextRow, standIns := [], harness := (true, "7ad9632144d44df5417e43185faf70d4b87e82a3bec4a3e843c183b3aeb87a49"), looks := true }, kinds := [], alts := [], laidByText := true, laidKinds := [.data, .data, .data], laidTests := true, laidLooks := .later }
def FnExactCubeTextCardSaid : Prop := Claim7.holds Tryd.pinned (.plain (OpenSpec.ofChange fnExactCubeTextSpec)) fnExactCubeTextCard

/-- THE TIED CARD OF 'laws.FnMatrices'. -/
def fnMatricesCard : Claim7 := { stood := { row := fnMatricesRow, standIns := [], harness := (true, "7ad9632144d44df5417e43185faf70d4b87e82a3bec4a3e843c183b3aeb87a49"), looks := true }, kinds := [], alts := [], laidByText := true, laidKinds := [.data, .data, .data, .sentinel, .sentinel], laidTests := true, laidLooks := .later }
def FnMatricesCardSaid : Prop := Claim7.holds Tryd.pinned (.plain (OpenSpec.ofChange fnMatricesSpec)) fnMatricesCard

/-- THE SECOND FORM's CARD OF 'laws.FnExactParseCube'. -/
def fnExactParseCubeUptoCard : Claim7 := { stood := { row := fnExactParseCubeUptoRow, standIns := [], harness := (true, "7ad9632144d44df5417e43185faf70d4b87e82a3bec4a3e843c183b3aeb87a49"), looks := true }, kinds := [], alts := [], laidByText := true, laidKinds := [.data, .data, .data, .sentinel, .sentinel], laidTests := true, laidLooks := .later }
def FnExactParseCubeUptoCardSaid : Prop := Claim7.holds Tryd.pinned (.plain (OpenSpec.upto fnExactParseCubeSpec)) fnExactParseCubeUptoCard

/-- THE SECOND FORM's CARD OF 'laws.FnExactCubeText'. -/
def fnExactCubeTextUptoCard : Claim7 := { stood := { row := fnExactCubeTextUptoRow, standIns := [], harness := (true, "7ad9632144d44df5417e43185faf70d4b87e82a3bec4a3e843c183b3aeb87a49"), looks := true }, kinds := [], alts := [], laidByText := true, laidKinds := [.data, .data, .data], laidTests := true, laidLooks := .later }
def FnExactCubeTextUptoCardSaid : Prop := Claim7.holds Tryd.pinned (.plain (OpenSpec.upto fnExactCubeTextSpec)) fnExactCubeTextUptoCard

/-- THE SECOND FORM's CARD OF 'laws.FnMatrices'. -/
def fnMatricesUptoCard : Claim7 := { stood := { row := fnMatricesUptoRow, standIns := [], harness := (true, "7ad9632144d44df5417e43185faf70d4b87e82a3bec4a3e843c183b3aeb87a49"), looks := true }, kinds := [], alts := [], laidByText := true, laidKinds := [.data, .data, .data, .sentinel, .sentinel], laidTests := true, laidLooks := .later }
def FnMatricesUptoCardSaid : Prop := Claim7.holds Tryd.pinned (.plain (OpenSpec.upto fnMatricesSpec)) fnMatricesUptoCard
end Rows
end Go.Proofs.YtlfbanoabipacaaDoor
