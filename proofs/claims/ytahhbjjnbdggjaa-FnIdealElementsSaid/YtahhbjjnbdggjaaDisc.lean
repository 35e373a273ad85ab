/-
  Discriminants: which integers are negative discriminants, and the principal form.
-/
import Derived.Test.YtahhbjjnbdggjaaNum
namespace Go.Proofs.Ytahhbjjnbdggjaa
open Go.RowKit
attribute [local simp, local go_sem] past_cell past_frozen past_tape
/-- A negative discriminant in the program's range. -/
def negB (d : Int) : Bool := decide (-2000 ≤ d ∧ d ≤ -3 ∧ d % 4 ≤ 1)
theorem negB_true {d : Int} (h : negB d = true) : -2000 ≤ d ∧ d ≤ -3 ∧ d % 4 ≤ 1 := of_decide_eq_true h
theorem isNegativeDisc_any (d : Int) (w : World) (h : I64 d) :
    Calls Try.prog 51 #[.int .i64 d] w fun en w' => en = .returned (.bool (negB d)) ∧ w = w' := by
  go_enter Try.func51, Try.ntmps51
  go_wp2_with (go_at_call 69; refine (mod_any _ _ _ h (by omega) (by omega)).mono ?_; rintro e w' ⟨rfl, rfl⟩)
  all_goals
    go_ret
    refine ⟨ret_bool ?_, rfl⟩
    (try unfold negB)
    (first | (symm; apply decide_eq_true; omega) | (symm; apply decide_eq_false; omega) | (rw [decide_eq_decide]; omega))
theorem reDisc_any (d : Int) (w : World) (h : I64 d) :
    Calls Try.prog 62 #[.int .i64 d] w fun en w' => en = .returned (.bool (negB d)) ∧ w = w' := by
  by_cases c : -2000 ≤ d ∧ d ≤ -3
  · have hin : inB d (-2000) (-3) = true := decide_eq_true c
    go_enter Try.func62, Try.ntmps62
    go_wp2_with (first | (go_at_call 63; refine (l1In_any _ _ _ _).mono ?_; rintro e w' ⟨rfl, rfl⟩) | (go_at_call 50; refine (nuMod_any _ _ _ h (by omega) (by omega)).mono ?_; rintro e w' ⟨rfl, rfl⟩))
    go_ret
    refine ⟨ret_bool ?_, rfl⟩
    unfold negB
    rw [decide_eq_decide]; omega
  · have hin : inB d (-2000) (-3) = false := decide_eq_false c
    have hn : Hid (negB d = false) := by show _ = _; exact decide_eq_false (by omega)
    go_enter Try.func62, Try.ntmps62
    go_wp2_with (go_at_call 63; refine (l1In_any _ _ _ _).mono ?_; rintro e w' ⟨rfl, rfl⟩)
    go_ret
    exact ⟨ret_bool hn.out.symm, rfl⟩
end Go.Proofs.Ytahhbjjnbdggjaa
