/-
  Fundamental negative discriminants, both ways. Printed by mkcls.py.
-/
import Derived.Test.YtladcjoiaoaedaaFund
namespace Go.Proofs.Ytladcjoiaoaedaa
open Go.RowKit
attribute [local simp, local go_sem] past_cell past_frozen past_tape
def fnB (d : Int) : Bool := negB d && decide (fdK d = 1)
theorem fnB_neg {d : Int} (h : fnB d = true) : negB d = true := by simp [fnB] at h; exact h.1
theorem isFundNeg_any (d : Int) (w : World) (hd : I64 d) : Calls Try.prog 38 #[.int .i64 d] w fun en w' => en = .returned (.bool (fnB d)) ∧ w = w' := by
  cases c : negB d with
  | true =>
    obtain ⟨n1, n2, _⟩ := negB_true c
    have HR : Hid (fnB d = decide (fdK d = 1)) := by show _ = _; rw [fnB, c, Bool.true_and]
    go_enter Try.func38, Try.ntmps38
    go_wp2_with (first | (go_at_call 72; refine (isNegativeDisc_any _ _ hd).mono ?_; rintro e w' ⟨rfl, rfl⟩) | (go_at_call 73; refine (fundamental_any d _ (by omega) ⟨by omega, by omega⟩).mono ?_; rintro e w' ⟨rfl, rfl, _⟩))
    all_goals
      go_ret
      refine ⟨ret_bool ?_, rfl⟩
      rw [HR.out]
      first | rfl | (symm; assumption) | simp_all
  | false =>
    have HR : Hid (fnB d = false) := by show _ = _; rw [fnB, c, Bool.false_and]
    go_enter Try.func38, Try.ntmps38
    go_wp2_with (go_at_call 72; refine (isNegativeDisc_any _ _ hd).mono ?_; rintro e w' ⟨rfl, rfl⟩)
    go_ret
    exact ⟨ret_bool HR.out.symm, rfl⟩
end Go.Proofs.Ytladcjoiaoaedaa
