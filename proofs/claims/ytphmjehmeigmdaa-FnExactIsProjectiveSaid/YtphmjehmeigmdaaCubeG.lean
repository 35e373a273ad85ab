/-
  The forms of a cube.
-/
import Derived.Test.YtphmjehmeigmdaaCubeF
import Derived.Deep.RegionHeld3
namespace Go.Proofs.Ytphmjehmeigmdaa
open Go.RowKit
attribute [local simp, local go_sem] past_cell past_frozen past_tape
set_option maxRecDepth 100000 in
set_option maxHeartbeats 1000000 in
theorem form1 (x0 x1 x2 x3 x4 x5 x6 x7 : Int) (w : World) (h0 : B5 x0) (h1 : B5 x1) (h2 : B5 x2) (h3 : B5 x3) (h4 : B5 x4) (h5 : B5 x5) (h6 : B5 x6) (h7 : B5 x7) :
    Calls Try.prog 36 #[.agg #[.int .i64 x0, .int .i64 x1, .int .i64 x2, .int .i64 x3, .int .i64 x4, .int .i64 x5, .int .i64 x6, .int .i64 x7], .int .i64 1] w fun e w' => e = .returned (.agg #[.int .i64 (cfA x0 x1 x2 x3), .int .i64 (cfB x0 x1 x2 x3 x4 x5 x6 x7), .int .i64 (cfC x4 x5 x6 x7)]) ∧ Below w.heap.size w w' := by
  have d1 := detW_eq h0 h1 h2 h3
  have d2 := detW_eq h4 h5 h6 h7
  obtain ⟨p0a, p0b⟩ := h0.mul h3
  obtain ⟨p1a, p1b⟩ := h1.mul h2
  obtain ⟨p2a, p2b⟩ := h0.mul h7
  obtain ⟨p3a, p3b⟩ := h3.mul h4
  obtain ⟨p4a, p4b⟩ := h1.mul h6
  obtain ⟨p5a, p5b⟩ := h2.mul h5
  obtain ⟨p6a, p6b⟩ := h4.mul h7
  obtain ⟨p7a, p7b⟩ := h5.mul h6
  have e1 := Lib.hid (show -((x0 * x3 - x1 * x2)) = cfA x0 x1 x2 x3 by unfold cfA; omega)
  have e2 := Lib.hid (show x0 * x7 + x3 * x4 - x1 * x6 - x2 * x5 = cfB x0 x1 x2 x3 x4 x5 x6 x7 from rfl)
  have e3 := Lib.hid (show -((x4 * x7 - x5 * x6)) = cfC x4 x5 x6 x7 by unfold cfC; omega)
  go_enter Try.func36, Try.ntmps36
  go_wp2_with fail
  refine (matrices1 _ _ _ _ _ _ _ _ _).mono ?_
  rintro e1 w1 ⟨rfl, hB1⟩
  obtain ⟨hC1, hF1⟩ := bcell hB1
  have hS1 := hB1.size
  (try simp at hS1)
  (try have hS1_w0 : w.heap.size < w1.heap.size := by omega)
  (try have hS1_w1 : w.heap.size + 1 < w1.heap.size := by omega)
  (try have hS1_w2 : w.heap.size + 1 + 1 < w1.heap.size := by omega)
  (try have hS1_w3 : w.heap.size + 1 + 1 + 1 < w1.heap.size := by omega)
  (try have hS1_w4 : w.heap.size + 1 + 1 + 1 + 1 < w1.heap.size := by omega)
  (try have hL1_w0 : w.heap.size ≤ w1.heap.size := by omega)
  (try have hL1_w1 : w.heap.size + 1 ≤ w1.heap.size := by omega)
  (try have hL1_w2 : w.heap.size + 1 + 1 ≤ w1.heap.size := by omega)
  (try have hL1_w3 : w.heap.size + 1 + 1 + 1 ≤ w1.heap.size := by omega)
  (try have hL1_w : w.heap.size ≤ w1.heap.size + 1 := by omega)
  (try have hM1_1 : w.heap.size < w1.heap.size + 1 := by omega)
  (try have hM1_2 : w.heap.size < w1.heap.size + 1 + 1 := by omega)
  (try have hM1_3 : w.heap.size < w1.heap.size + 1 + 1 + 1 := by omega)
  go_wp2_with fail
  refine wp_region_past_tail 30 (by kernel_rfl) (by kernel_rfl) ?_
  simp only [List.take_succ_cons, List.take_zero, List.drop_succ_cons, List.drop_zero]
  repeat (first | go_big_quiet_skip | (go_big_quiet_want; go_big_quiet_op; first | go_big_quiet_on | (apply Exists.intro; refine ⟨fun _ => ?_, ?_⟩; (focus ((go_at_call 55; exact past_of (det_any _ _ _ _ _)))); go_big_quiet_on)))
  refine wpQuiet_nil ?_
  intro w2 hw'
  have hB2 := past_below hw'
  clear hw'
  obtain ⟨hC2, hF2⟩ := bcell hB2
  have hS2 := hB2.size
  (try simp at hS2)
  (try have hS2_w0 : w.heap.size < w2.heap.size := by omega)
  (try have hS2_w1 : w.heap.size + 1 < w2.heap.size := by omega)
  (try have hS2_w2 : w.heap.size + 1 + 1 < w2.heap.size := by omega)
  (try have hS2_w3 : w.heap.size + 1 + 1 + 1 < w2.heap.size := by omega)
  (try have hS2_w4 : w.heap.size + 1 + 1 + 1 + 1 < w2.heap.size := by omega)
  (try have hS2_1 : w1.heap.size < w2.heap.size := by omega)
  (try have hS2_1' : w1.heap.size + 1 < w2.heap.size := by omega)
  go_wp2
  have hR : ∀ o, w2.cell? ⟨w.heap.size + 1, o, none⟩ = (#[.int .i64 0, .int .i64 0, .int .i64 0] : Array Value)[o]? := by
    intro o
    rw [hC2 _ o (by simp; omega), cell_alloc_old _ _ _ _ (by simp; omega), cell_alloc_old _ _ _ _ (by omega), hC1 _ o (by simp)]
    simp [go_sem]
  refine bodyPost_ret (v := .agg #[.int .i64 (-(x0 * x3 - x1 * x2)), .int .i64 (x0 * x7 + x3 * x4 - x1 * x6 - x2 * x5), .int .i64 (-(x4 * x7 - x5 * x6))]) (by go_light; clear hC1 hC2 hF1 hF2 hB1 hB2; simp [results, Try.results36, go_sem, hR]) rfl ⟨by rw [e1.out, e2.out, e3.out], ?_⟩
  repeat (first | with_reducible exact Below.refl _ _ | with_reducible assumption | ((with_reducible refine blA ?_ ?_); (focus (first | omega | (simp <;> omega)))) | (with_reducible refine blD ?_) | (with_reducible refine blN ?_) | ((with_reducible refine blS ?_ ?_); (focus (first | omega | (simp <;> omega)))) | ((with_reducible refine blT (by assumption) ?_ ?_); (focus (first | omega | (simp <;> omega)))))

set_option maxRecDepth 100000 in
set_option maxHeartbeats 1000000 in
theorem form2 (x0 x1 x2 x3 x4 x5 x6 x7 : Int) (w : World) (h0 : B5 x0) (h1 : B5 x1) (h2 : B5 x2) (h3 : B5 x3) (h4 : B5 x4) (h5 : B5 x5) (h6 : B5 x6) (h7 : B5 x7) :
    Calls Try.prog 36 #[.agg #[.int .i64 x0, .int .i64 x1, .int .i64 x2, .int .i64 x3, .int .i64 x4, .int .i64 x5, .int .i64 x6, .int .i64 x7], .int .i64 2] w fun e w' => e = .returned (.agg #[.int .i64 (cfA x0 x2 x4 x6), .int .i64 (cfB x0 x2 x4 x6 x1 x3 x5 x7), .int .i64 (cfC x1 x3 x5 x7)]) ∧ Below w.heap.size w w' := by
  have d1 := detW_eq h0 h2 h4 h6
  have d2 := detW_eq h1 h3 h5 h7
  obtain ⟨p0a, p0b⟩ := h0.mul h6
  obtain ⟨p1a, p1b⟩ := h2.mul h4
  obtain ⟨p2a, p2b⟩ := h0.mul h7
  obtain ⟨p3a, p3b⟩ := h6.mul h1
  obtain ⟨p4a, p4b⟩ := h2.mul h5
  obtain ⟨p5a, p5b⟩ := h4.mul h3
  obtain ⟨p6a, p6b⟩ := h1.mul h7
  obtain ⟨p7a, p7b⟩ := h3.mul h5
  have e1 := Lib.hid (show -((x0 * x6 - x2 * x4)) = cfA x0 x2 x4 x6 by unfold cfA; omega)
  have e2 := Lib.hid (show x0 * x7 + x6 * x1 - x2 * x5 - x4 * x3 = cfB x0 x2 x4 x6 x1 x3 x5 x7 from rfl)
  have e3 := Lib.hid (show -((x1 * x7 - x3 * x5)) = cfC x1 x3 x5 x7 by unfold cfC; omega)
  go_enter Try.func36, Try.ntmps36
  go_wp2_with fail
  refine (matrices2 _ _ _ _ _ _ _ _ _).mono ?_
  rintro e1 w1 ⟨rfl, hB1⟩
  obtain ⟨hC1, hF1⟩ := bcell hB1
  have hS1 := hB1.size
  (try simp at hS1)
  (try have hS1_w0 : w.heap.size < w1.heap.size := by omega)
  (try have hS1_w1 : w.heap.size + 1 < w1.heap.size := by omega)
  (try have hS1_w2 : w.heap.size + 1 + 1 < w1.heap.size := by omega)
  (try have hS1_w3 : w.heap.size + 1 + 1 + 1 < w1.heap.size := by omega)
  (try have hS1_w4 : w.heap.size + 1 + 1 + 1 + 1 < w1.heap.size := by omega)
  (try have hL1_w0 : w.heap.size ≤ w1.heap.size := by omega)
  (try have hL1_w1 : w.heap.size + 1 ≤ w1.heap.size := by omega)
  (try have hL1_w2 : w.heap.size + 1 + 1 ≤ w1.heap.size := by omega)
  (try have hL1_w3 : w.heap.size + 1 + 1 + 1 ≤ w1.heap.size := by omega)
  (try have hL1_w : w.heap.size ≤ w1.heap.size + 1 := by omega)
  (try have hM1_1 : w.heap.size < w1.heap.size + 1 := by omega)
  (try have hM1_2 : w.heap.size < w1.heap.size + 1 + 1 := by omega)
  (try have hM1_3 : w.heap.size < w1.heap.size + 1 + 1 + 1 := by omega)
  go_wp2_with fail
  refine wp_region_past_tail 30 (by kernel_rfl) (by kernel_rfl) ?_
  simp only [List.take_succ_cons, List.take_zero, List.drop_succ_cons, List.drop_zero]
  repeat (first | go_big_quiet_skip | (go_big_quiet_want; go_big_quiet_op; first | go_big_quiet_on | (apply Exists.intro; refine ⟨fun _ => ?_, ?_⟩; (focus ((go_at_call 55; exact past_of (det_any _ _ _ _ _)))); go_big_quiet_on)))
  refine wpQuiet_nil ?_
  intro w2 hw'
  have hB2 := past_below hw'
  clear hw'
  obtain ⟨hC2, hF2⟩ := bcell hB2
  have hS2 := hB2.size
  (try simp at hS2)
  (try have hS2_w0 : w.heap.size < w2.heap.size := by omega)
  (try have hS2_w1 : w.heap.size + 1 < w2.heap.size := by omega)
  (try have hS2_w2 : w.heap.size + 1 + 1 < w2.heap.size := by omega)
  (try have hS2_w3 : w.heap.size + 1 + 1 + 1 < w2.heap.size := by omega)
  (try have hS2_w4 : w.heap.size + 1 + 1 + 1 + 1 < w2.heap.size := by omega)
  (try have hS2_1 : w1.heap.size < w2.heap.size := by omega)
  (try have hS2_1' : w1.heap.size + 1 < w2.heap.size := by omega)
  go_wp2
  have hR : ∀ o, w2.cell? ⟨w.heap.size + 1, o, none⟩ = (#[.int .i64 0, .int .i64 0, .int .i64 0] : Array Value)[o]? := by
    intro o
    rw [hC2 _ o (by simp; omega), cell_alloc_old _ _ _ _ (by simp; omega), cell_alloc_old _ _ _ _ (by omega), hC1 _ o (by simp)]
    simp [go_sem]
  refine bodyPost_ret (v := .agg #[.int .i64 (-(x0 * x6 - x2 * x4)), .int .i64 (x0 * x7 + x6 * x1 - x2 * x5 - x4 * x3), .int .i64 (-(x1 * x7 - x3 * x5))]) (by go_light; clear hC1 hC2 hF1 hF2 hB1 hB2; simp [results, Try.results36, go_sem, hR]) rfl ⟨by rw [e1.out, e2.out, e3.out], ?_⟩
  repeat (first | with_reducible exact Below.refl _ _ | with_reducible assumption | ((with_reducible refine blA ?_ ?_); (focus (first | omega | (simp <;> omega)))) | (with_reducible refine blD ?_) | (with_reducible refine blN ?_) | ((with_reducible refine blS ?_ ?_); (focus (first | omega | (simp <;> omega)))) | ((with_reducible refine blT (by assumption) ?_ ?_); (focus (first | omega | (simp <;> omega)))))

set_option maxRecDepth 100000 in
set_option maxHeartbeats 1000000 in
theorem form3 (x0 x1 x2 x3 x4 x5 x6 x7 : Int) (w : World) (h0 : B5 x0) (h1 : B5 x1) (h2 : B5 x2) (h3 : B5 x3) (h4 : B5 x4) (h5 : B5 x5) (h6 : B5 x6) (h7 : B5 x7) :
    Calls Try.prog 36 #[.agg #[.int .i64 x0, .int .i64 x1, .int .i64 x2, .int .i64 x3, .int .i64 x4, .int .i64 x5, .int .i64 x6, .int .i64 x7], .int .i64 3] w fun e w' => e = .returned (.agg #[.int .i64 (cfA x0 x4 x1 x5), .int .i64 (cfB x0 x4 x1 x5 x2 x6 x3 x7), .int .i64 (cfC x2 x6 x3 x7)]) ∧ Below w.heap.size w w' := by
  have d1 := detW_eq h0 h4 h1 h5
  have d2 := detW_eq h2 h6 h3 h7
  obtain ⟨p0a, p0b⟩ := h0.mul h5
  obtain ⟨p1a, p1b⟩ := h4.mul h1
  obtain ⟨p2a, p2b⟩ := h0.mul h7
  obtain ⟨p3a, p3b⟩ := h5.mul h2
  obtain ⟨p4a, p4b⟩ := h4.mul h3
  obtain ⟨p5a, p5b⟩ := h1.mul h6
  obtain ⟨p6a, p6b⟩ := h2.mul h7
  obtain ⟨p7a, p7b⟩ := h6.mul h3
  have e1 := Lib.hid (show -((x0 * x5 - x4 * x1)) = cfA x0 x4 x1 x5 by unfold cfA; omega)
  have e2 := Lib.hid (show x0 * x7 + x5 * x2 - x4 * x3 - x1 * x6 = cfB x0 x4 x1 x5 x2 x6 x3 x7 from rfl)
  have e3 := Lib.hid (show -((x2 * x7 - x6 * x3)) = cfC x2 x6 x3 x7 by unfold cfC; omega)
  go_enter Try.func36, Try.ntmps36
  go_wp2_with fail
  refine (matrices3 _ _ _ _ _ _ _ _ _).mono ?_
  rintro e1 w1 ⟨rfl, hB1⟩
  obtain ⟨hC1, hF1⟩ := bcell hB1
  have hS1 := hB1.size
  (try simp at hS1)
  (try have hS1_w0 : w.heap.size < w1.heap.size := by omega)
  (try have hS1_w1 : w.heap.size + 1 < w1.heap.size := by omega)
  (try have hS1_w2 : w.heap.size + 1 + 1 < w1.heap.size := by omega)
  (try have hS1_w3 : w.heap.size + 1 + 1 + 1 < w1.heap.size := by omega)
  (try have hS1_w4 : w.heap.size + 1 + 1 + 1 + 1 < w1.heap.size := by omega)
  (try have hL1_w0 : w.heap.size ≤ w1.heap.size := by omega)
  (try have hL1_w1 : w.heap.size + 1 ≤ w1.heap.size := by omega)
  (try have hL1_w2 : w.heap.size + 1 + 1 ≤ w1.heap.size := by omega)
  (try have hL1_w3 : w.heap.size + 1 + 1 + 1 ≤ w1.heap.size := by omega)
  (try have hL1_w : w.heap.size ≤ w1.heap.size + 1 := by omega)
  (try have hM1_1 : w.heap.size < w1.heap.size + 1 := by omega)
  (try have hM1_2 : w.heap.size < w1.heap.size + 1 + 1 := by omega)
  (try have hM1_3 : w.heap.size < w1.heap.size + 1 + 1 + 1 := by omega)
  go_wp2_with fail
  refine wp_region_past_tail 30 (by kernel_rfl) (by kernel_rfl) ?_
  simp only [List.take_succ_cons, List.take_zero, List.drop_succ_cons, List.drop_zero]
  repeat (first | go_big_quiet_skip | (go_big_quiet_want; go_big_quiet_op; first | go_big_quiet_on | (apply Exists.intro; refine ⟨fun _ => ?_, ?_⟩; (focus ((go_at_call 55; exact past_of (det_any _ _ _ _ _)))); go_big_quiet_on)))
  refine wpQuiet_nil ?_
  intro w2 hw'
  have hB2 := past_below hw'
  clear hw'
  obtain ⟨hC2, hF2⟩ := bcell hB2
  have hS2 := hB2.size
  (try simp at hS2)
  (try have hS2_w0 : w.heap.size < w2.heap.size := by omega)
  (try have hS2_w1 : w.heap.size + 1 < w2.heap.size := by omega)
  (try have hS2_w2 : w.heap.size + 1 + 1 < w2.heap.size := by omega)
  (try have hS2_w3 : w.heap.size + 1 + 1 + 1 < w2.heap.size := by omega)
  (try have hS2_w4 : w.heap.size + 1 + 1 + 1 + 1 < w2.heap.size := by omega)
  (try have hS2_1 : w1.heap.size < w2.heap.size := by omega)
  (try have hS2_1' : w1.heap.size + 1 < w2.heap.size := by omega)
  go_wp2
  have hR : ∀ o, w2.cell? ⟨w.heap.size + 1, o, none⟩ = (#[.int .i64 0, .int .i64 0, .int .i64 0] : Array Value)[o]? := by
    intro o
    rw [hC2 _ o (by simp; omega), cell_alloc_old _ _ _ _ (by simp; omega), cell_alloc_old _ _ _ _ (by omega), hC1 _ o (by simp)]
    simp [go_sem]
  refine bodyPost_ret (v := .agg #[.int .i64 (-(x0 * x5 - x4 * x1)), .int .i64 (x0 * x7 + x5 * x2 - x4 * x3 - x1 * x6), .int .i64 (-(x2 * x7 - x6 * x3))]) (by go_light; clear hC1 hC2 hF1 hF2 hB1 hB2; simp [results, Try.results36, go_sem, hR]) rfl ⟨by rw [e1.out, e2.out, e3.out], ?_⟩
  repeat (first | with_reducible exact Below.refl _ _ | with_reducible assumption | ((with_reducible refine blA ?_ ?_); (focus (first | omega | (simp <;> omega)))) | (with_reducible refine blD ?_) | (with_reducible refine blN ?_) | ((with_reducible refine blS ?_ ?_); (focus (first | omega | (simp <;> omega)))) | ((with_reducible refine blT (by assumption) ?_ ?_); (focus (first | omega | (simp <;> omega)))))

end Go.Proofs.Ytphmjehmeigmdaa
