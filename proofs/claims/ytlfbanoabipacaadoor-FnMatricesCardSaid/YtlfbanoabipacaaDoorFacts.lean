/-
  Closed facts on the program as a whole, asked once for all statements of the seat.
-/
import Derived.Test.YtlfbanoabipacaaDoorRows
import Derived.JoinedOf
import Derived.KernelRfl
namespace Go.Proofs.YtlfbanoabipacaaDoor
theorem headFacts : (Tryd.prog.mayEnter && ((false == Tryd.prog.liftsFinal) && (Tryd.prog.make == some Make.cut))) = true := by kernel_rfl
theorem mayFact : Tryd.prog.mayEnter = true := (Bool.and_eq_true _ _ ▸ headFacts).1
theorem liftsFact : Tryd.prog.liftsFinal = false := by
  have h := (Bool.and_eq_true _ _ ▸ (Bool.and_eq_true _ _ ▸ headFacts).2).1
  exact (beq_iff_eq.1 h).symm
theorem makeFact : Tryd.prog.make = some Make.cut := by
  have h := (Bool.and_eq_true _ _ ▸ (Bool.and_eq_true _ _ ▸ headFacts).2).2
  exact beq_iff_eq.1 h
theorem mapsFact : mapsRowed Tryd.prog = true := by kernel_rfl
theorem laidFact : laidOutB Tryd.prog = true := by kernel_rfl
end Go.Proofs.YtlfbanoabipacaaDoor
