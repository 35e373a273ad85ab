/-
  Ideals: which are valid, elements, forms.
-/
import Derived.Test.YtladcjoiaoaedaaForm
import Derived.Test.YtladcjoiaoaedaaDisc
import Derived.Test.YtladcjoiaoaedaaEnd
namespace Go.Proofs.Ytladcjoiaoaedaa
open Go.RowKit
attribute [local simp, local go_sem] past_cell past_frozen past_tape
/-- A valid ideal for a negative discriminant. -/
def idB (d e a b : Int) : Bool := decide (negB d = true ∧ 1 ≤ e ∧ e ≤ 10000 ∧ 1 ≤ a ∧ a ≤ 10000 ∧ 0 ≤ b ∧ b < 2 * a ∧ (b * b - d) % (4 * a) = 0)
theorem idB_true {d e a b : Int} (h : idB d e a b = true) : negB d = true ∧ 1 ≤ e ∧ e ≤ 10000 ∧ 1 ≤ a ∧ a ≤ 10000 ∧ 0 ≤ b ∧ b < 2 * a ∧ (b * b - d) % (4 * a) = 0 := of_decide_eq_true h
theorem idB_facts {d a b : Int} (hd : negB d = true) (a1 : 1 ≤ a) (a2 : a ≤ 10000) (b1 : 0 ≤ b) (b2 : b < 2 * a) : 0 ≤ b * b ∧ b * b ≤ 400000000 ∧ 0 ≤ b * b - d ∧ b * b - d ≤ 400010000 := by
  obtain ⟨d1, d2, d3⟩ := negB_true hd
  obtain ⟨m1, m2⟩ := mul_bd (show Bd 20000 b from ⟨by omega, by omega⟩) (show Bd 20000 b from ⟨by omega, by omega⟩) (show (20000 : Int) * 20000 ≤ 400000000 by decide)
  have := Int.mul_nonneg b1 b1
  omega
set_option maxHeartbeats 1000000 in
theorem isIdeal_any (d e a b : Int) (w : World) (hd : I64 d) :
    Calls Try.prog 49 #[.int .i64 d, .agg #[.int .i64 e, .int .i64 a, .int .i64 b]] w fun en w' => en = .returned (.bool (idB d e a b)) ∧ Below w.heap.size w w' := by
  by_cases c0 : negB d = true
  rotate_left
  · have c0' : negB d = false := by simpa using c0
    go_enter Try.func49, Try.ntmps49
    go_wp2_with (go_at_call 72; refine (isNegativeDisc_any _ _ hd).mono ?_; rintro e w' ⟨rfl, rfl⟩)
    go_ret
    refine ⟨ret_bool ?_, ?_⟩
    · go_light; symm; exact decide_eq_false (by rintro ⟨q0, q1, q2, q3, q4, q5, q6, q7⟩; first | omega | exact c0 q0)
    · repeat (first | with_reducible exact Below.refl _ _ | with_reducible assumption | ((with_reducible refine blA ?_ ?_); (focus (first | omega | (simp <;> omega)))) | (with_reducible refine blD ?_) | (with_reducible refine blN ?_) | ((with_reducible refine blS ?_ ?_); (focus (first | omega | (simp <;> omega)))) | ((with_reducible refine blT (by assumption) ?_ ?_); (focus (first | omega | (simp <;> omega)))))
  by_cases c1 : 1 ≤ e
  rotate_left
  · go_enter Try.func49, Try.ntmps49
    go_wp2_with (go_at_call 72; refine (isNegativeDisc_any _ _ hd).mono ?_; rintro e w' ⟨rfl, rfl⟩)
    go_ret
    refine ⟨ret_bool ?_, ?_⟩
    · go_light; symm; exact decide_eq_false (by rintro ⟨q0, q1, q2, q3, q4, q5, q6, q7⟩; first | omega | exact c1 q0)
    · repeat (first | with_reducible exact Below.refl _ _ | with_reducible assumption | ((with_reducible refine blA ?_ ?_); (focus (first | omega | (simp <;> omega)))) | (with_reducible refine blD ?_) | (with_reducible refine blN ?_) | ((with_reducible refine blS ?_ ?_); (focus (first | omega | (simp <;> omega)))) | ((with_reducible refine blT (by assumption) ?_ ?_); (focus (first | omega | (simp <;> omega)))))
  by_cases c2 : e ≤ 10000
  rotate_left
  · go_enter Try.func49, Try.ntmps49
    go_wp2_with (go_at_call 72; refine (isNegativeDisc_any _ _ hd).mono ?_; rintro e w' ⟨rfl, rfl⟩)
    go_ret
    refine ⟨ret_bool ?_, ?_⟩
    · go_light; symm; exact decide_eq_false (by rintro ⟨q0, q1, q2, q3, q4, q5, q6, q7⟩; first | omega | exact c2 q0)
    · repeat (first | with_reducible exact Below.refl _ _ | with_reducible assumption | ((with_reducible refine blA ?_ ?_); (focus (first | omega | (simp <;> omega)))) | (with_reducible refine blD ?_) | (with_reducible refine blN ?_) | ((with_reducible refine blS ?_ ?_); (focus (first | omega | (simp <;> omega)))) | ((with_reducible refine blT (by assumption) ?_ ?_); (focus (first | omega | (simp <;> omega)))))
  by_cases c3 : 1 ≤ a
  rotate_left
  · go_enter Try.func49, Try.ntmps49
    go_wp2_with (go_at_call 72; refine (isNegativeDisc_any _ _ hd).mono ?_; rintro e w' ⟨rfl, rfl⟩)
    go_ret
    refine ⟨ret_bool ?_, ?_⟩
    · go_light; symm; exact decide_eq_false (by rintro ⟨q0, q1, q2, q3, q4, q5, q6, q7⟩; first | omega | exact c3 q0)
    · repeat (first | with_reducible exact Below.refl _ _ | with_reducible assumption | ((with_reducible refine blA ?_ ?_); (focus (first | omega | (simp <;> omega)))) | (with_reducible refine blD ?_) | (with_reducible refine blN ?_) | ((with_reducible refine blS ?_ ?_); (focus (first | omega | (simp <;> omega)))) | ((with_reducible refine blT (by assumption) ?_ ?_); (focus (first | omega | (simp <;> omega)))))
  by_cases c4 : a ≤ 10000
  rotate_left
  · go_enter Try.func49, Try.ntmps49
    go_wp2_with (go_at_call 72; refine (isNegativeDisc_any _ _ hd).mono ?_; rintro e w' ⟨rfl, rfl⟩)
    go_ret
    refine ⟨ret_bool ?_, ?_⟩
    · go_light; symm; exact decide_eq_false (by rintro ⟨q0, q1, q2, q3, q4, q5, q6, q7⟩; first | omega | exact c4 q0)
    · repeat (first | with_reducible exact Below.refl _ _ | with_reducible assumption | ((with_reducible refine blA ?_ ?_); (focus (first | omega | (simp <;> omega)))) | (with_reducible refine blD ?_) | (with_reducible refine blN ?_) | ((with_reducible refine blS ?_ ?_); (focus (first | omega | (simp <;> omega)))) | ((with_reducible refine blT (by assumption) ?_ ?_); (focus (first | omega | (simp <;> omega)))))
  by_cases c5 : 0 ≤ b
  rotate_left
  · go_enter Try.func49, Try.ntmps49
    go_wp2_with (go_at_call 72; refine (isNegativeDisc_any _ _ hd).mono ?_; rintro e w' ⟨rfl, rfl⟩)
    go_ret
    refine ⟨ret_bool ?_, ?_⟩
    · go_light; symm; exact decide_eq_false (by rintro ⟨q0, q1, q2, q3, q4, q5, q6, q7⟩; first | omega | exact c5 q0)
    · repeat (first | with_reducible exact Below.refl _ _ | with_reducible assumption | ((with_reducible refine blA ?_ ?_); (focus (first | omega | (simp <;> omega)))) | (with_reducible refine blD ?_) | (with_reducible refine blN ?_) | ((with_reducible refine blS ?_ ?_); (focus (first | omega | (simp <;> omega)))) | ((with_reducible refine blT (by assumption) ?_ ?_); (focus (first | omega | (simp <;> omega)))))
  by_cases c6 : b < 2 * a
  rotate_left
  · go_enter Try.func49, Try.ntmps49
    go_wp2_with (go_at_call 72; refine (isNegativeDisc_any _ _ hd).mono ?_; rintro e w' ⟨rfl, rfl⟩)
    go_ret
    refine ⟨ret_bool ?_, ?_⟩
    · go_light; symm; exact decide_eq_false (by rintro ⟨q0, q1, q2, q3, q4, q5, q6, q7⟩; first | omega | exact c6 q0)
    · repeat (first | with_reducible exact Below.refl _ _ | with_reducible assumption | ((with_reducible refine blA ?_ ?_); (focus (first | omega | (simp <;> omega)))) | (with_reducible refine blD ?_) | (with_reducible refine blN ?_) | ((with_reducible refine blS ?_ ?_); (focus (first | omega | (simp <;> omega)))) | ((with_reducible refine blT (by assumption) ?_ ?_); (focus (first | omega | (simp <;> omega)))))
  obtain ⟨m1, m2, m3, m4⟩ := idB_facts c0 c3 c4 c5 c6
  go_enter Try.func49, Try.ntmps49
  go_wp2_with (go_at_call 72; refine (isNegativeDisc_any _ _ hd).mono ?_; rintro e w' ⟨rfl, rfl⟩)
  go_ret
  refine ⟨ret_bool ?_, ?_⟩
  · go_light; unfold idB; rw [Bool.eq_iff_iff]; simp only [beq_iff_eq, decide_eq_true_eq]; exact ⟨fun q => ⟨c0, c1, c2, c3, c4, c5, c6, q⟩, fun q => q.2.2.2.2.2.2.2⟩
  · repeat (first | with_reducible exact Below.refl _ _ | with_reducible assumption | ((with_reducible refine blA ?_ ?_); (focus (first | omega | (simp <;> omega)))) | (with_reducible refine blD ?_) | (with_reducible refine blN ?_) | ((with_reducible refine blS ?_ ?_); (focus (first | omega | (simp <;> omega)))) | ((with_reducible refine blT (by assumption) ?_ ?_); (focus (first | omega | (simp <;> omega)))))
set_option maxHeartbeats 1000000 in
theorem idGood_any (d e a b : Int) (w : World) (hd : I64 d) :
    Calls Try.prog 46 #[.int .i64 d, .agg #[.int .i64 e, .int .i64 a, .int .i64 b]] w fun en w' => en = .returned (.bool (idB d e a b)) ∧ Below w.heap.size w w' := by
  by_cases c0 : negB d = true
  rotate_left
  · have c0' : negB d = false := by simpa using c0
    go_enter Try.func46, Try.ntmps46
    go_wp2_with (first | (go_at_call 71; refine (reDisc_any _ _ hd).mono ?_; rintro e w' ⟨rfl, rfl⟩) | (go_at_call 36; refine (l1In_any _ _ _ _).mono ?_; rintro e w' ⟨rfl, rfl⟩))
    go_ret
    refine ⟨ret_bool ?_, ?_⟩
    · go_light; symm; exact decide_eq_false (by rintro ⟨q0, q1, q2, q3, q4, q5, q6, q7⟩; first | omega | exact c0 q0)
    · repeat (first | with_reducible exact Below.refl _ _ | with_reducible assumption | ((with_reducible refine blA ?_ ?_); (focus (first | omega | (simp <;> omega)))) | (with_reducible refine blD ?_) | (with_reducible refine blN ?_) | ((with_reducible refine blS ?_ ?_); (focus (first | omega | (simp <;> omega)))) | ((with_reducible refine blT (by assumption) ?_ ?_); (focus (first | omega | (simp <;> omega)))))
  by_cases c1 : 1 ≤ e ∧ e ≤ 10000
  rotate_left
  · have k1 : inB e 1 10000 = false := decide_eq_false c1
    go_enter Try.func46, Try.ntmps46
    go_wp2_with (first | (go_at_call 71; refine (reDisc_any _ _ hd).mono ?_; rintro e w' ⟨rfl, rfl⟩) | (go_at_call 36; refine (l1In_any _ _ _ _).mono ?_; rintro e w' ⟨rfl, rfl⟩))
    go_ret
    refine ⟨ret_bool ?_, ?_⟩
    · go_light; symm; exact decide_eq_false (by rintro ⟨q0, q1, q2, q3, q4, q5, q6, q7⟩; first | omega | exact c1 q0)
    · repeat (first | with_reducible exact Below.refl _ _ | with_reducible assumption | ((with_reducible refine blA ?_ ?_); (focus (first | omega | (simp <;> omega)))) | (with_reducible refine blD ?_) | (with_reducible refine blN ?_) | ((with_reducible refine blS ?_ ?_); (focus (first | omega | (simp <;> omega)))) | ((with_reducible refine blT (by assumption) ?_ ?_); (focus (first | omega | (simp <;> omega)))))
  have k1 : inB e 1 10000 = true := decide_eq_true c1
  by_cases c2 : 1 ≤ a ∧ a ≤ 10000
  rotate_left
  · have k2 : inB a 1 10000 = false := decide_eq_false c2
    go_enter Try.func46, Try.ntmps46
    go_wp2_with (first | (go_at_call 71; refine (reDisc_any _ _ hd).mono ?_; rintro e w' ⟨rfl, rfl⟩) | (go_at_call 36; refine (l1In_any _ _ _ _).mono ?_; rintro e w' ⟨rfl, rfl⟩))
    go_ret
    refine ⟨ret_bool ?_, ?_⟩
    · go_light; symm; exact decide_eq_false (by rintro ⟨q0, q1, q2, q3, q4, q5, q6, q7⟩; first | omega | exact c2 q0)
    · repeat (first | with_reducible exact Below.refl _ _ | with_reducible assumption | ((with_reducible refine blA ?_ ?_); (focus (first | omega | (simp <;> omega)))) | (with_reducible refine blD ?_) | (with_reducible refine blN ?_) | ((with_reducible refine blS ?_ ?_); (focus (first | omega | (simp <;> omega)))) | ((with_reducible refine blT (by assumption) ?_ ?_); (focus (first | omega | (simp <;> omega)))))
  have k2 : inB a 1 10000 = true := decide_eq_true c2
  by_cases c3 : 0 ≤ b ∧ b ≤ 2 * a - 1
  rotate_left
  · have k3 : inB b 0 (2 * a - 1) = false := decide_eq_false c3
    go_enter Try.func46, Try.ntmps46
    go_wp2_with (first | (go_at_call 71; refine (reDisc_any _ _ hd).mono ?_; rintro e w' ⟨rfl, rfl⟩) | (go_at_call 36; refine (l1In_any _ _ _ _).mono ?_; rintro e w' ⟨rfl, rfl⟩))
    go_ret
    refine ⟨ret_bool ?_, ?_⟩
    · go_light; symm; exact decide_eq_false (by rintro ⟨q0, q1, q2, q3, q4, q5, q6, q7⟩; first | omega | exact c3 q0)
    · repeat (first | with_reducible exact Below.refl _ _ | with_reducible assumption | ((with_reducible refine blA ?_ ?_); (focus (first | omega | (simp <;> omega)))) | (with_reducible refine blD ?_) | (with_reducible refine blN ?_) | ((with_reducible refine blS ?_ ?_); (focus (first | omega | (simp <;> omega)))) | ((with_reducible refine blT (by assumption) ?_ ?_); (focus (first | omega | (simp <;> omega)))))
  have k3 : inB b 0 (2 * a - 1) = true := decide_eq_true c3
  obtain ⟨c2a, c2b⟩ := id c2
  obtain ⟨m1, m2, m3, m4⟩ := idB_facts c0 c2.1 c2.2 c3.1 (by have := c3.2; omega)
  go_enter Try.func46, Try.ntmps46
  go_wp2_with (first | (go_at_call 71; refine (reDisc_any _ _ hd).mono ?_; rintro e w' ⟨rfl, rfl⟩) | (go_at_call 36; refine (l1In_any _ _ _ _).mono ?_; rintro e w' ⟨rfl, rfl⟩))
  go_ret
  refine ⟨ret_bool ?_, ?_⟩
  · go_light; unfold idB; rw [Bool.eq_iff_iff]; simp only [beq_iff_eq, decide_eq_true_eq]; exact ⟨fun q => ⟨c0, c1.1, c1.2, c2.1, c2.2, c3.1, by have := c3.2; omega, q⟩, fun q => q.2.2.2.2.2.2.2⟩
  · repeat (first | with_reducible exact Below.refl _ _ | with_reducible assumption | ((with_reducible refine blA ?_ ?_); (focus (first | omega | (simp <;> omega)))) | (with_reducible refine blD ?_) | (with_reducible refine blN ?_) | ((with_reducible refine blS ?_ ?_); (focus (first | omega | (simp <;> omega)))) | ((with_reducible refine blT (by assumption) ?_ ?_); (focus (first | omega | (simp <;> omega)))))
/-- The form's last coefficient. -/
def idC (d a b : Int) : Int := (b * b - d) / (4 * a)
theorem idForm_any (d e a b : Int) (w : World) (h : idB d e a b = true) :
    Calls Try.prog 61 #[.int .i64 d, .agg #[.int .i64 e, .int .i64 a, .int .i64 b]] w fun en w' => en = .returned (.agg #[.int .i64 a, .int .i64 b, .int .i64 (idC d a b)]) ∧ Below w.heap.size w w' := by
  obtain ⟨h0, h1, h2, h3, h4, h5, h6, h7⟩ := idB_true h
  obtain ⟨m1, m2, m3, m4⟩ := idB_facts h0 h3 h4 h5 h6
  obtain ⟨d1, d2, d3⟩ := negB_true h0
  clear h h7
  go_enter Try.func61, Try.ntmps61
  go_wp2_with fail
  refine wp_region_past_tail 16 (by kernel_rfl) (by kernel_rfl) ?_
  simp only [List.take_succ_cons, List.take_zero, List.drop_succ_cons, List.drop_zero]
  repeat (first | go_big_quiet_skip | (go_big_quiet_want; go_big_quiet_op; first | go_big_quiet_on | (apply Exists.intro; refine ⟨fun _ => ?_, ?_⟩; (focus (fail)); go_big_quiet_on)))
  refine wpQuiet_nil ?_
  intro w1 hw'
  have hB1 := past_below hw'
  clear hw'
  obtain ⟨hC1, hF1⟩ := bcell hB1
  have hS1 := hB1.size
  (try simp at hS1)
  (try have hS1_w0 : w.heap.size < w1.heap.size := by omega)
  (try have hS1_w1 : w.heap.size + 1 < w1.heap.size := by omega)
  (try have hS1_w2 : w.heap.size + 1 + 1 < w1.heap.size := by omega)
  (try have hS1_w3 : w.heap.size + 1 + 1 + 1 < w1.heap.size := by omega)
  (try have hS1_w4 : w.heap.size + 1 + 1 + 1 + 1 < w1.heap.size := by omega)
  go_wp2
  (refine bodyPost_ret (v := .agg #[.int .i64 a, .int .i64 b, .int .i64 ((b * b - d) / (4 * a))]) ?_ rfl ⟨?_, ?_⟩; (focus (go_light; first | (simp [results, Try.results61, go_sem, *]; done) | (simp (disch := first | omega | (simp <;> omega) | (refine isSome_of ?_ ?_; (focus ((repeat (first | ((with_reducible refine (cell_alloc_old _ _ _ _ ?_).trans ?_); (focus (first | omega | (simp <;> omega)))) | ((with_reducible refine (bG (by assumption) ?_).trans ?_); (focus (first | omega | (simp <;> omega)))))); exact rfl)); simp [go_sem]) | fail) [results, Try.results61, go_sem, *]; done))); (focus (rfl)); repeat (first | with_reducible exact Below.refl _ _ | with_reducible assumption | ((with_reducible refine blA ?_ ?_); (focus (first | omega | (simp <;> omega)))) | (with_reducible refine blD ?_) | (with_reducible refine blN ?_) | ((with_reducible refine blS ?_ ?_); (focus (first | omega | (simp <;> omega)))) | ((with_reducible refine blT (by assumption) ?_ ?_); (focus (first | omega | (simp <;> omega))))))
theorem toIdeal_any (e a b : Int) (w : World) :
    Calls Try.prog 20 #[.agg #[.int .i64 e, .int .i64 a, .int .i64 b]] w fun en w' => en = .returned (.agg #[.int .i64 e, .int .i64 a, .int .i64 b]) ∧ Below w.heap.size w w' := by
  go_enter Try.func20, Try.ntmps20
  go_wp2
  (refine bodyPost_ret (v := .agg #[.int .i64 e, .int .i64 a, .int .i64 b]) ?_ rfl ⟨?_, ?_⟩; (focus (go_light; first | (simp [results, Try.results20, go_sem, *]; done) | (simp (disch := first | omega | (simp <;> omega) | (refine isSome_of ?_ ?_; (focus ((repeat (first | ((with_reducible refine (cell_alloc_old _ _ _ _ ?_).trans ?_); (focus (first | omega | (simp <;> omega)))) | ((with_reducible refine (bG (by assumption) ?_).trans ?_); (focus (first | omega | (simp <;> omega)))))); exact rfl)); simp [go_sem]) | fail) [results, Try.results20, go_sem, *]; done))); (focus (rfl)); repeat (first | with_reducible exact Below.refl _ _ | with_reducible assumption | ((with_reducible refine blA ?_ ?_); (focus (first | omega | (simp <;> omega)))) | (with_reducible refine blD ?_) | (with_reducible refine blN ?_) | ((with_reducible refine blS ?_ ?_); (focus (first | omega | (simp <;> omega)))) | ((with_reducible refine blT (by assumption) ?_ ?_); (focus (first | omega | (simp <;> omega))))))
def iz (p : Bool) (x : Int) : Int := if p then x else 0
end Go.Proofs.Ytladcjoiaoaedaa
