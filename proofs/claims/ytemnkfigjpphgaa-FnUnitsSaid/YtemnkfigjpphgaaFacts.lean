/-
  Closed facts on the program as a whole, asked once for all statements of the seat.
-/
import Derived.Test.YtemnkfigjpphgaaRows
import Derived.JoinedOf
import Derived.KernelRfl
namespace Go.Proofs.Ytemnkfigjpphgaa
theorem headFacts : (Try.prog.mayEnter && ((false == Try.prog.liftsFinal) && (Try.prog.make == some Make.cut))) = true := by kernel_rfl
theorem mayFact : Try.prog.mayEnter = true := (Bool.and_eq_true _ _ ▸ headFacts).1
theorem liftsFact : Try.prog.liftsFinal = false := by
  have h := (Bool.and_eq_true _ _ ▸ (Bool.and_eq_true _ _ ▸ headFacts).2).1
  exact (beq_iff_eq.1 h).symm
theorem makeFact : Try.prog.make = some Make.cut := by
  have h := (Bool.and_eq_true _ _ ▸ (Bool.and_eq_true _ _ ▸ headFacts).2).2
  exact beq_iff_eq.1 h
theorem mapsFact : mapsRowed Try.prog = true := by kernel_rfl
theorem laidFact : laidOutB Try.prog = true := by kernel_rfl
end Go.Proofs.Ytemnkfigjpphgaa
