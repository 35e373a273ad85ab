/-
  Discriminants: which integers are negative discriminants, and the principal form.
-/
import Derived.Test.YtladcjoiaoaedaaNum
namespace Go.Proofs.Ytladcjoiaoaedaa
open Go.RowKit
attribute [local simp, local go_sem] past_cell past_frozen past_tape
/-- A negative discriminant in the program's range. -/
def negB (d : Int) : Bool := decide (-2000 ≤ d ∧ d ≤ -3 ∧ d % 4 ≤ 1)
theorem negB_true {d : Int} (h : negB d = true) : -2000 ≤ d ∧ d ≤ -3 ∧ d % 4 ≤ 1 := of_decide_eq_true h
theorem isNegativeDisc_any (d : Int) (w : World) (h : I64 d) :
    Calls Try.prog 72 #[.int .i64 d] w fun en w' => en = .returned (.bool (negB d)) ∧ w = w' := by
  go_enter Try.func72, Try.ntmps72
  go_wp2_with (go_at_call 78; refine (mod_any _ _ _ h (by omega) (by omega)).mono ?_; rintro e w' ⟨rfl, rfl⟩)
  all_goals
    go_ret
    refine ⟨ret_bool ?_, rfl⟩
    (try unfold negB)
    (first | (symm; apply decide_eq_true; omega) | (symm; apply decide_eq_false; omega) | (rw [decide_eq_decide]; omega))
theorem reDisc_any (d : Int) (w : World) (h : I64 d) :
    Calls Try.prog 71 #[.int .i64 d] w fun en w' => en = .returned (.bool (negB d)) ∧ w = w' := by
  by_cases c : -2000 ≤ d ∧ d ≤ -3
  · have hin : inB d (-2000) (-3) = true := decide_eq_true c
    go_enter Try.func71, Try.ntmps71
    go_wp2_with (first | (go_at_call 36; refine (l1In_any _ _ _ _).mono ?_; rintro e w' ⟨rfl, rfl⟩) | (go_at_call 44; refine (nuMod_any _ _ _ h (by omega) (by omega)).mono ?_; rintro e w' ⟨rfl, rfl⟩))
    go_ret
    refine ⟨ret_bool ?_, rfl⟩
    unfold negB
    rw [decide_eq_decide]; omega
  · have hin : inB d (-2000) (-3) = false := decide_eq_false c
    have hn : Hid (negB d = false) := by show _ = _; exact decide_eq_false (by omega)
    go_enter Try.func71, Try.ntmps71
    go_wp2_with (go_at_call 36; refine (l1In_any _ _ _ _).mono ?_; rintro e w' ⟨rfl, rfl⟩)
    go_ret
    exact ⟨ret_bool hn.out.symm, rfl⟩
theorem coOne_any (d : Int) (w : World) (h : negB d = true) :
    Calls Try.prog 58 #[.int .i64 d] w fun en w' => en = .returned (.agg #[.int .i64 1, .int .i64 (d % 2), .int .i64 ((d % 2 - d) / 4)]) ∧ Below w.heap.size w w' := by
  obtain ⟨h1, h2, h3⟩ := negB_true h
  have k1 := Int.emod_nonneg d (show (2:Int) ≠ 0 by omega)
  have k2 := Int.emod_lt_of_pos d (show (0:Int) < 2 by omega)
  have hq : 0 ≤ d % 2 - d := by omega
  go_enter Try.func58, Try.ntmps58
  go_wp2_with (go_at_call 44; refine (nuMod_any _ _ _ ⟨by omega, by omega⟩ (by omega) (by omega)).mono ?_; rintro e w' ⟨rfl, rfl⟩)
  refine bodyPost_ret (v := .agg #[.int .i64 1, .int .i64 (d % 2), .int .i64 ((d % 2 - d) / 4)]) (by go_light; simp [results, Try.results58, go_sem, *]) rfl ⟨rfl, ?_⟩
  repeat (first | with_reducible exact Below.refl _ _ | with_reducible assumption | ((with_reducible refine blA ?_ ?_); (focus (first | omega | (simp <;> omega)))) | (with_reducible refine blD ?_) | (with_reducible refine blN ?_) | ((with_reducible refine blS ?_ ?_); (focus (first | omega | (simp <;> omega)))) | ((with_reducible refine blT (by assumption) ?_ ?_); (focus (first | omega | (simp <;> omega)))))
end Go.Proofs.Ytladcjoiaoaedaa
