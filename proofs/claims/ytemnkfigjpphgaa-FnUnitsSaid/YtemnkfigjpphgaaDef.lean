/-
  Definite forms, and what a matrix makes of a form.
-/
import Derived.Test.YtemnkfigjpphgaaForm
import Derived.Test.YtemnkfigjpphgaaRws
namespace Go.Proofs.Ytemnkfigjpphgaa
open Go.RowKit
attribute [local simp, local go_sem] past_cell past_frozen past_tape
/-- Substituting a matrix. -/
theorem substitute_any (a b c p q r s : Int) (w : World) :
    Calls Try.prog 84 #[.agg #[.int .i64 a, .int .i64 b, .int .i64 c], .agg #[.int .i64 p, .int .i64 q, .int .i64 r, .int .i64 s]] w fun en w' => en = .returned (.agg #[.int .i64 (valW a b c p r), .int .i64 (polW a b c p r q s), .int .i64 (valW a b c q s)]) ∧ Below w.heap.size w w' := by
  go_enter Try.func84, Try.ntmps84
  go_wp2_with fail
  refine wp_region_past_tail 23 (by kernel_rfl) (by kernel_rfl) ?_
  simp only [List.take_succ_cons, List.take_zero, List.drop_succ_cons, List.drop_zero]
  repeat (first | go_big_quiet_skip | (go_big_quiet_want; go_big_quiet_op; first | go_big_quiet_on | (apply Exists.intro; refine ⟨fun _ => ?_, ?_⟩; (focus (first | (go_at_call 117; exact past_of (at_any _ _ _ _ _ _)) | (go_at_call 118; exact past_of (polar_any _ _ _ _ _ _ _ _)))); go_big_quiet_on)))
  refine wpQuiet_nil ?_
  intro w1 hw'
  have hB1 := past_below hw'
  clear hw'
  obtain ⟨hC1, hF1⟩ := bcell hB1
  have hS1 := hB1.size
  (try simp at hS1)
  (try have hS1_w0 : w.heap.size < w1.heap.size := by omega)
  (try have hS1_w1 : w.heap.size + 1 < w1.heap.size := by omega)
  (try have hS1_w2 : w.heap.size + 1 + 1 < w1.heap.size := by omega)
  (try have hS1_w3 : w.heap.size + 1 + 1 + 1 < w1.heap.size := by omega)
  (try have hS1_w4 : w.heap.size + 1 + 1 + 1 + 1 < w1.heap.size := by omega)
  go_wp2
  (refine bodyPost_ret (v := .agg #[.int .i64 (valW a b c p r), .int .i64 (polW a b c p r q s), .int .i64 (valW a b c q s)]) ?_ rfl ⟨?_, ?_⟩; (focus (go_light; first | (simp [results, Try.results84, go_sem, *]; done) | (simp (disch := first | omega | (simp <;> omega) | (refine isSome_of ?_ ?_; (focus ((repeat (first | ((with_reducible refine (cell_alloc_old _ _ _ _ ?_).trans ?_); (focus (first | omega | (simp <;> omega)))) | ((with_reducible refine (bG (by assumption) ?_).trans ?_); (focus (first | omega | (simp <;> omega)))))); exact rfl)); simp [go_sem]) | fail) [results, Try.results84, go_sem, *]; done))); (focus (rfl)); repeat (first | with_reducible exact Below.refl _ _ | with_reducible assumption | ((with_reducible refine blA ?_ ?_); (focus (first | omega | (simp <;> omega)))) | (with_reducible refine blD ?_) | (with_reducible refine blN ?_) | ((with_reducible refine blS ?_ ?_); (focus (first | omega | (simp <;> omega)))) | ((with_reducible refine blT (by assumption) ?_ ?_); (focus (first | omega | (simp <;> omega))))))
theorem foAct_any (a b c p q r s : Int) (w : World) :
    Calls Try.prog 79 #[.agg #[.int .i64 a, .int .i64 b, .int .i64 c], .agg #[.int .i64 p, .int .i64 q, .int .i64 r, .int .i64 s]] w fun en w' => en = .returned (.agg #[.int .i64 (valW a b c p r), .int .i64 (polW a b c p r q s), .int .i64 (valW a b c q s)]) ∧ Below w.heap.size w w' := by
  go_enter Try.func79, Try.ntmps79
  go_wp2_with fail
  refine wp_region_past_tail 23 (by kernel_rfl) (by kernel_rfl) ?_
  simp only [List.take_succ_cons, List.take_zero, List.drop_succ_cons, List.drop_zero]
  repeat (first | go_big_quiet_skip | (go_big_quiet_want; go_big_quiet_op; first | go_big_quiet_on | (apply Exists.intro; refine ⟨fun _ => ?_, ?_⟩; (focus (first | (go_at_call 114; exact past_of (foValue_any _ _ _ _ _ _)) | (go_at_call 115; exact past_of (foPolar_any _ _ _ _ _ _ _ _)))); go_big_quiet_on)))
  refine wpQuiet_nil ?_
  intro w1 hw'
  have hB1 := past_below hw'
  clear hw'
  obtain ⟨hC1, hF1⟩ := bcell hB1
  have hS1 := hB1.size
  (try simp at hS1)
  (try have hS1_w0 : w.heap.size < w1.heap.size := by omega)
  (try have hS1_w1 : w.heap.size + 1 < w1.heap.size := by omega)
  (try have hS1_w2 : w.heap.size + 1 + 1 < w1.heap.size := by omega)
  (try have hS1_w3 : w.heap.size + 1 + 1 + 1 < w1.heap.size := by omega)
  (try have hS1_w4 : w.heap.size + 1 + 1 + 1 + 1 < w1.heap.size := by omega)
  go_wp2
  (refine bodyPost_ret (v := .agg #[.int .i64 (valW a b c p r), .int .i64 (polW a b c p r q s), .int .i64 (valW a b c q s)]) ?_ rfl ⟨?_, ?_⟩; (focus (go_light; first | (simp [results, Try.results79, go_sem, *]; done) | (simp (disch := first | omega | (simp <;> omega) | (refine isSome_of ?_ ?_; (focus ((repeat (first | ((with_reducible refine (cell_alloc_old _ _ _ _ ?_).trans ?_); (focus (first | omega | (simp <;> omega)))) | ((with_reducible refine (bG (by assumption) ?_).trans ?_); (focus (first | omega | (simp <;> omega)))))); exact rfl)); simp [go_sem]) | fail) [results, Try.results79, go_sem, *]; done))); (focus (rfl)); repeat (first | with_reducible exact Below.refl _ _ | with_reducible assumption | ((with_reducible refine blA ?_ ?_); (focus (first | omega | (simp <;> omega)))) | (with_reducible refine blD ?_) | (with_reducible refine blN ?_) | ((with_reducible refine blS ?_ ?_); (focus (first | omega | (simp <;> omega)))) | ((with_reducible refine blT (by assumption) ?_ ?_); (focus (first | omega | (simp <;> omega))))))
end Go.Proofs.Ytemnkfigjpphgaa
