/-
  The cube's exported functions and the walks of their laws.
-/
import Derived.Test.YtphmjehmeigmdaaCube
namespace Go.Proofs.Ytphmjehmeigmdaa
open Go.RowKit
attribute [local simp, local go_sem] past_cell past_frozen past_tape
theorem specIsCube_any (x0 x1 x2 x3 x4 x5 x6 x7 : Int) (w : World) :
    Calls Try.prog 11 #[.agg #[.int .i64 x0, .int .i64 x1, .int .i64 x2, .int .i64 x3, .int .i64 x4, .int .i64 x5, .int .i64 x6, .int .i64 x7]] w fun e w' => e = .returned (.bool (cubeB x0 x1 x2 x3 x4 x5 x6 x7)) ∧ Below w.heap.size w w' := by
  go_enter Try.func11, Try.ntmps11
  go_wp2_with (go_at_call 31; refine (cuIn_any _ _ _ _ _ _ _ _ _).mono ?_; rintro e w' ⟨rfl, hB⟩; obtain ⟨hC, hF⟩ := bcell hB; have hS := hB.size; (try simp at hS); (try have hSl := Nat.lt_of_succ_le hS); (try have hS0 : w.heap.size < w'.heap.size := by omega); (try have hS1 : w.heap.size + 1 < w'.heap.size := by omega); (try have hS2 : w.heap.size + 1 + 1 < w'.heap.size := by omega); (try have hS3 : w.heap.size + 1 + 1 + 1 < w'.heap.size := by omega))
  go_ret
  refine ⟨rfl, ?_⟩
  repeat (first | with_reducible exact Below.refl _ _ | with_reducible assumption | ((with_reducible refine blA ?_ ?_); (focus (first | omega | (simp <;> omega)))) | (with_reducible refine blD ?_) | (with_reducible refine blN ?_) | ((with_reducible refine blS ?_ ?_); (focus (first | omega | (simp <;> omega)))) | ((with_reducible refine blT (by assumption) ?_ ?_); (focus (first | omega | (simp <;> omega)))))

theorem law_isCube (x0 x1 x2 x3 x4 x5 x6 x7 : Int) (w : World) (_ : I64 x0) (_ : I64 x1) (_ : I64 x2) (_ : I64 x3) (_ : I64 x4) (_ : I64 x5) (_ : I64 x6) (_ : I64 x7) :
    Calls Try.prog 3 #[.agg #[.int .i64 x0, .int .i64 x1, .int .i64 x2, .int .i64 x3, .int .i64 x4, .int .i64 x5, .int .i64 x6, .int .i64 x7]] w fun e w' => e = .returned (.bool true) ∧ Below w.heap.size w w' := by
  go_enter Try.func3, Try.ntmps3
  go_wp2_with (first | (go_at_call 12; refine (toCube_any _ _ _ _ _ _ _ _ _).mono ?_; rintro e w' ⟨rfl, hB⟩; obtain ⟨hC, hF⟩ := bcell hB; have hS := hB.size; (try simp at hS); (try have hSl := Nat.lt_of_succ_le hS); (try have hS0 : w.heap.size < w'.heap.size := by omega); (try have hS1 : w.heap.size + 1 < w'.heap.size := by omega); (try have hS2 : w.heap.size + 1 + 1 < w'.heap.size := by omega); (try have hS3 : w.heap.size + 1 + 1 + 1 < w'.heap.size := by omega)) | (go_at_call 11; refine (specIsCube_any _ _ _ _ _ _ _ _ _).mono ?_; rintro e w' ⟨rfl, hB⟩; obtain ⟨hC, hF⟩ := bcell hB; have hS := hB.size; (try simp at hS); (try have hSl := Nat.lt_of_succ_le hS); (try have hS0 : w.heap.size < w'.heap.size := by omega); (try have hS1 : w.heap.size + 1 < w'.heap.size := by omega); (try have hS2 : w.heap.size + 1 + 1 < w'.heap.size := by omega); (try have hS3 : w.heap.size + 1 + 1 + 1 < w'.heap.size := by omega)) | (go_at_call 13; refine (IsCube_any _ _ _ _ _ _ _ _ _).mono ?_; rintro e w' ⟨rfl, hB⟩; obtain ⟨hC, hF⟩ := bcell hB; have hS := hB.size; (try simp at hS); (try have hSl := Nat.lt_of_succ_le hS); (try have hS0 : w.heap.size < w'.heap.size := by omega); (try have hS1 : w.heap.size + 1 < w'.heap.size := by omega); (try have hS2 : w.heap.size + 1 + 1 < w'.heap.size := by omega); (try have hS3 : w.heap.size + 1 + 1 + 1 < w'.heap.size := by omega)))
  go_ret
  refine ⟨rfl, ?_⟩
  repeat (first | with_reducible exact Below.refl _ _ | with_reducible assumption | ((with_reducible refine blA ?_ ?_); (focus (first | omega | (simp <;> omega)))) | (with_reducible refine blD ?_) | (with_reducible refine blN ?_) | ((with_reducible refine blS ?_ ?_); (focus (first | omega | (simp <;> omega)))) | ((with_reducible refine blT (by assumption) ?_ ?_); (focus (first | omega | (simp <;> omega)))))

theorem cuTurn_any (x0 x1 x2 x3 x4 x5 x6 x7 : Int) (w : World) :
    Calls Try.prog 38 #[.agg #[.int .i64 x0, .int .i64 x1, .int .i64 x2, .int .i64 x3, .int .i64 x4, .int .i64 x5, .int .i64 x6, .int .i64 x7]] w fun e w' => e = .returned (.agg #[.int .i64 x0, .int .i64 x2, .int .i64 x4, .int .i64 x6, .int .i64 x1, .int .i64 x3, .int .i64 x5, .int .i64 x7]) ∧ Below w.heap.size w w' := by
  go_enter Try.func38, Try.ntmps38
  go_wp2
  refine bodyPost_ret (v := .agg #[.int .i64 x0, .int .i64 x2, .int .i64 x4, .int .i64 x6, .int .i64 x1, .int .i64 x3, .int .i64 x5, .int .i64 x7]) (by go_light; simp [results, Try.results38, go_sem]) rfl ⟨rfl, ?_⟩
  repeat (first | with_reducible exact Below.refl _ _ | with_reducible assumption | ((with_reducible refine blA ?_ ?_); (focus (first | omega | (simp <;> omega)))) | (with_reducible refine blD ?_) | (with_reducible refine blN ?_) | ((with_reducible refine blS ?_ ?_); (focus (first | omega | (simp <;> omega)))) | ((with_reducible refine blT (by assumption) ?_ ?_); (focus (first | omega | (simp <;> omega)))))

set_option maxHeartbeats 800000 in
theorem implTurnCube_any (x0 x1 x2 x3 x4 x5 x6 x7 : Int) (w : World) :
    Calls Try.prog 20 #[.agg #[.int .i64 x0, .int .i64 x1, .int .i64 x2, .int .i64 x3, .int .i64 x4, .int .i64 x5, .int .i64 x6, .int .i64 x7]] w fun e w' => e = .returned (.tuple #[.agg #[.int .i64 (cz (cubeB x0 x1 x2 x3 x4 x5 x6 x7) x0), .int .i64 (cz (cubeB x0 x1 x2 x3 x4 x5 x6 x7) x2), .int .i64 (cz (cubeB x0 x1 x2 x3 x4 x5 x6 x7) x4), .int .i64 (cz (cubeB x0 x1 x2 x3 x4 x5 x6 x7) x6), .int .i64 (cz (cubeB x0 x1 x2 x3 x4 x5 x6 x7) x1), .int .i64 (cz (cubeB x0 x1 x2 x3 x4 x5 x6 x7) x3), .int .i64 (cz (cubeB x0 x1 x2 x3 x4 x5 x6 x7) x5), .int .i64 (cz (cubeB x0 x1 x2 x3 x4 x5 x6 x7) x7)], .bool (cubeB x0 x1 x2 x3 x4 x5 x6 x7)]) ∧ Below w.heap.size w w' := by
  by_cases c1 : cubeB x0 x1 x2 x3 x4 x5 x6 x7 = true
  · go_enter Try.func20, Try.ntmps20
    go_wp2_with (first | (go_at_call 13; refine (IsCube_any _ _ _ _ _ _ _ _ _).mono ?_; rintro e w' ⟨rfl, hB⟩; obtain ⟨hC, hF⟩ := bcell hB; have hS := hB.size; (try simp at hS); (try have hSl := Nat.lt_of_succ_le hS); (try have hS0 : w.heap.size < w'.heap.size := by omega); (try have hS1 : w.heap.size + 1 < w'.heap.size := by omega); (try have hS2 : w.heap.size + 1 + 1 < w'.heap.size := by omega); (try have hS3 : w.heap.size + 1 + 1 + 1 < w'.heap.size := by omega)))
    refine bodyPost_ret (v := .tuple #[.agg #[.int .i64 x0, .int .i64 x2, .int .i64 x4, .int .i64 x6, .int .i64 x1, .int .i64 x3, .int .i64 x5, .int .i64 x7], .bool true]) (by go_light; simp [results, Try.results20, go_sem, *]) rfl ⟨by rw [c1]; rfl, ?_⟩
    repeat (first | with_reducible exact Below.refl _ _ | with_reducible assumption | ((with_reducible refine blA ?_ ?_); (focus (first | omega | (simp <;> omega)))) | (with_reducible refine blD ?_) | (with_reducible refine blN ?_) | ((with_reducible refine blS ?_ ?_); (focus (first | omega | (simp <;> omega)))) | ((with_reducible refine blT (by assumption) ?_ ?_); (focus (first | omega | (simp <;> omega)))))
  · have c1' : cubeB x0 x1 x2 x3 x4 x5 x6 x7 = false := by simpa using c1
    clear c1
    go_enter Try.func20, Try.ntmps20
    go_wp2_with (first | (go_at_call 13; refine (IsCube_any _ _ _ _ _ _ _ _ _).mono ?_; rintro e w' ⟨rfl, hB⟩; obtain ⟨hC, hF⟩ := bcell hB; have hS := hB.size; (try simp at hS); (try have hSl := Nat.lt_of_succ_le hS); (try have hS0 : w.heap.size < w'.heap.size := by omega); (try have hS1 : w.heap.size + 1 < w'.heap.size := by omega); (try have hS2 : w.heap.size + 1 + 1 < w'.heap.size := by omega); (try have hS3 : w.heap.size + 1 + 1 + 1 < w'.heap.size := by omega)))
    refine bodyPost_ret (v := .tuple #[.agg #[.int .i64 0, .int .i64 0, .int .i64 0, .int .i64 0, .int .i64 0, .int .i64 0, .int .i64 0, .int .i64 0], .bool false]) (by go_light; simp [results, Try.results20, go_sem, *]) rfl ⟨by rw [c1']; rfl, ?_⟩
    repeat (first | with_reducible exact Below.refl _ _ | with_reducible assumption | ((with_reducible refine blA ?_ ?_); (focus (first | omega | (simp <;> omega)))) | (with_reducible refine blD ?_) | (with_reducible refine blN ?_) | ((with_reducible refine blS ?_ ?_); (focus (first | omega | (simp <;> omega)))) | ((with_reducible refine blT (by assumption) ?_ ?_); (focus (first | omega | (simp <;> omega)))))

set_option maxHeartbeats 800000 in
theorem specTurnCube_any (x0 x1 x2 x3 x4 x5 x6 x7 : Int) (w : World) :
    Calls Try.prog 19 #[.agg #[.int .i64 x0, .int .i64 x1, .int .i64 x2, .int .i64 x3, .int .i64 x4, .int .i64 x5, .int .i64 x6, .int .i64 x7]] w fun e w' => e = .returned (.tuple #[.agg #[.int .i64 (cz (cubeB x0 x1 x2 x3 x4 x5 x6 x7) x0), .int .i64 (cz (cubeB x0 x1 x2 x3 x4 x5 x6 x7) x2), .int .i64 (cz (cubeB x0 x1 x2 x3 x4 x5 x6 x7) x4), .int .i64 (cz (cubeB x0 x1 x2 x3 x4 x5 x6 x7) x6), .int .i64 (cz (cubeB x0 x1 x2 x3 x4 x5 x6 x7) x1), .int .i64 (cz (cubeB x0 x1 x2 x3 x4 x5 x6 x7) x3), .int .i64 (cz (cubeB x0 x1 x2 x3 x4 x5 x6 x7) x5), .int .i64 (cz (cubeB x0 x1 x2 x3 x4 x5 x6 x7) x7)], .bool (cubeB x0 x1 x2 x3 x4 x5 x6 x7)]) ∧ Below w.heap.size w w' := by
  by_cases c1 : cubeB x0 x1 x2 x3 x4 x5 x6 x7 = true
  · go_enter Try.func19, Try.ntmps19
    go_wp2_with (first | (go_at_call 31; refine (cuIn_any _ _ _ _ _ _ _ _ _).mono ?_; rintro e w' ⟨rfl, hB⟩; obtain ⟨hC, hF⟩ := bcell hB; have hS := hB.size; (try simp at hS); (try have hSl := Nat.lt_of_succ_le hS); (try have hS0 : w.heap.size < w'.heap.size := by omega); (try have hS1 : w.heap.size + 1 < w'.heap.size := by omega); (try have hS2 : w.heap.size + 1 + 1 < w'.heap.size := by omega); (try have hS3 : w.heap.size + 1 + 1 + 1 < w'.heap.size := by omega)) | (go_at_call 38; refine (cuTurn_any _ _ _ _ _ _ _ _ _).mono ?_; rintro e w' ⟨rfl, hB⟩; obtain ⟨hC, hF⟩ := bcell hB; have hS := hB.size; (try simp at hS); (try have hSl := Nat.lt_of_succ_le hS); (try have hS0 : w.heap.size < w'.heap.size := by omega); (try have hS1 : w.heap.size + 1 < w'.heap.size := by omega); (try have hS2 : w.heap.size + 1 + 1 < w'.heap.size := by omega); (try have hS3 : w.heap.size + 1 + 1 + 1 < w'.heap.size := by omega)))
    refine bodyPost_ret (v := .tuple #[.agg #[.int .i64 x0, .int .i64 x2, .int .i64 x4, .int .i64 x6, .int .i64 x1, .int .i64 x3, .int .i64 x5, .int .i64 x7], .bool true]) (by go_light; simp [results, Try.results19, go_sem, *]) rfl ⟨by rw [c1]; rfl, ?_⟩
    repeat (first | with_reducible exact Below.refl _ _ | with_reducible assumption | ((with_reducible refine blA ?_ ?_); (focus (first | omega | (simp <;> omega)))) | (with_reducible refine blD ?_) | (with_reducible refine blN ?_) | ((with_reducible refine blS ?_ ?_); (focus (first | omega | (simp <;> omega)))) | ((with_reducible refine blT (by assumption) ?_ ?_); (focus (first | omega | (simp <;> omega)))))
  · have c1' : cubeB x0 x1 x2 x3 x4 x5 x6 x7 = false := by simpa using c1
    clear c1
    go_enter Try.func19, Try.ntmps19
    go_wp2_with (first | (go_at_call 31; refine (cuIn_any _ _ _ _ _ _ _ _ _).mono ?_; rintro e w' ⟨rfl, hB⟩; obtain ⟨hC, hF⟩ := bcell hB; have hS := hB.size; (try simp at hS); (try have hSl := Nat.lt_of_succ_le hS); (try have hS0 : w.heap.size < w'.heap.size := by omega); (try have hS1 : w.heap.size + 1 < w'.heap.size := by omega); (try have hS2 : w.heap.size + 1 + 1 < w'.heap.size := by omega); (try have hS3 : w.heap.size + 1 + 1 + 1 < w'.heap.size := by omega)) | (go_at_call 38; refine (cuTurn_any _ _ _ _ _ _ _ _ _).mono ?_; rintro e w' ⟨rfl, hB⟩; obtain ⟨hC, hF⟩ := bcell hB; have hS := hB.size; (try simp at hS); (try have hSl := Nat.lt_of_succ_le hS); (try have hS0 : w.heap.size < w'.heap.size := by omega); (try have hS1 : w.heap.size + 1 < w'.heap.size := by omega); (try have hS2 : w.heap.size + 1 + 1 < w'.heap.size := by omega); (try have hS3 : w.heap.size + 1 + 1 + 1 < w'.heap.size := by omega)))
    refine bodyPost_ret (v := .tuple #[.agg #[.int .i64 0, .int .i64 0, .int .i64 0, .int .i64 0, .int .i64 0, .int .i64 0, .int .i64 0, .int .i64 0], .bool false]) (by go_light; simp [results, Try.results19, go_sem, *]) rfl ⟨by rw [c1']; rfl, ?_⟩
    repeat (first | with_reducible exact Below.refl _ _ | with_reducible assumption | ((with_reducible refine blA ?_ ?_); (focus (first | omega | (simp <;> omega)))) | (with_reducible refine blD ?_) | (with_reducible refine blN ?_) | ((with_reducible refine blS ?_ ?_); (focus (first | omega | (simp <;> omega)))) | ((with_reducible refine blT (by assumption) ?_ ?_); (focus (first | omega | (simp <;> omega)))))

set_option maxRecDepth 100000 in
set_option maxHeartbeats 1000000 in
theorem law_turnCube (x0 x1 x2 x3 x4 x5 x6 x7 : Int) (w : World) (_ : I64 x0) (_ : I64 x1) (_ : I64 x2) (_ : I64 x3) (_ : I64 x4) (_ : I64 x5) (_ : I64 x6) (_ : I64 x7) :
    Calls Try.prog 6 #[.agg #[.int .i64 x0, .int .i64 x1, .int .i64 x2, .int .i64 x3, .int .i64 x4, .int .i64 x5, .int .i64 x6, .int .i64 x7]] w fun e w' => e = .returned (.bool true) ∧ Below w.heap.size w w' := by
  go_enter Try.func6, Try.ntmps6
  go_wp2_with fail
  refine (toCube_any _ _ _ _ _ _ _ _ _).mono ?_
  rintro e1 w1 ⟨rfl, hB1⟩
  obtain ⟨hC1, hF1⟩ := bcell hB1
  have hS1 := hB1.size
  (try simp at hS1)
  (try have hS1_w0 : w.heap.size < w1.heap.size := by omega)
  (try have hS1_w1 : w.heap.size + 1 < w1.heap.size := by omega)
  (try have hS1_w2 : w.heap.size + 1 + 1 < w1.heap.size := by omega)
  (try have hS1_w3 : w.heap.size + 1 + 1 + 1 < w1.heap.size := by omega)
  (try have hS1_w4 : w.heap.size + 1 + 1 + 1 + 1 < w1.heap.size := by omega)
  (try have hL1_w0 : w.heap.size ≤ w1.heap.size := by omega)
  (try have hL1_w1 : w.heap.size + 1 ≤ w1.heap.size := by omega)
  (try have hL1_w2 : w.heap.size + 1 + 1 ≤ w1.heap.size := by omega)
  (try have hL1_w3 : w.heap.size + 1 + 1 + 1 ≤ w1.heap.size := by omega)
  (try have hL1_w : w.heap.size ≤ w1.heap.size + 1 := by omega)
  (try have hM1_1 : w.heap.size < w1.heap.size + 1 := by omega)
  (try have hM1_2 : w.heap.size < w1.heap.size + 1 + 1 := by omega)
  (try have hM1_3 : w.heap.size < w1.heap.size + 1 + 1 + 1 := by omega)
  go_wp2_with fail
  refine (specTurnCube_any _ _ _ _ _ _ _ _ _).mono ?_
  rintro e2 w2 ⟨rfl, hB2⟩
  obtain ⟨hC2, hF2⟩ := bcell hB2
  have hS2 := hB2.size
  (try simp at hS2)
  (try have hS2_w0 : w.heap.size < w2.heap.size := by omega)
  (try have hS2_w1 : w.heap.size + 1 < w2.heap.size := by omega)
  (try have hS2_w2 : w.heap.size + 1 + 1 < w2.heap.size := by omega)
  (try have hS2_w3 : w.heap.size + 1 + 1 + 1 < w2.heap.size := by omega)
  (try have hS2_w4 : w.heap.size + 1 + 1 + 1 + 1 < w2.heap.size := by omega)
  (try have hL2_w0 : w.heap.size ≤ w2.heap.size := by omega)
  (try have hL2_w1 : w.heap.size + 1 ≤ w2.heap.size := by omega)
  (try have hL2_w2 : w.heap.size + 1 + 1 ≤ w2.heap.size := by omega)
  (try have hL2_w3 : w.heap.size + 1 + 1 + 1 ≤ w2.heap.size := by omega)
  (try have hL2_w : w.heap.size ≤ w2.heap.size + 1 := by omega)
  (try have hM2_1 : w.heap.size < w2.heap.size + 1 := by omega)
  (try have hM2_2 : w.heap.size < w2.heap.size + 1 + 1 := by omega)
  (try have hM2_3 : w.heap.size < w2.heap.size + 1 + 1 + 1 := by omega)
  (try have hN2_1_00 : w1.heap.size < w2.heap.size := by omega)
  (try have hN2_1_01 : w1.heap.size < w2.heap.size + 1 := by omega)
  (try have hN2_1_02 : w1.heap.size < w2.heap.size + 1 + 1 := by omega)
  (try have hN2_1_10 : w1.heap.size + 1 < w2.heap.size := by omega)
  (try have hN2_1_11 : w1.heap.size + 1 < w2.heap.size + 1 := by omega)
  (try have hN2_1_12 : w1.heap.size + 1 < w2.heap.size + 1 + 1 := by omega)
  (try have hN2_1_20 : w1.heap.size + 1 + 1 < w2.heap.size := by omega)
  (try have hN2_1_21 : w1.heap.size + 1 + 1 < w2.heap.size + 1 := by omega)
  (try have hN2_1_22 : w1.heap.size + 1 + 1 < w2.heap.size + 1 + 1 := by omega)
  (try have hL2_1 : w1.heap.size ≤ w2.heap.size := by omega)
  (try have hS2_1 : w1.heap.size < w2.heap.size := by omega)
  (try have hS2_1' : w1.heap.size + 1 < w2.heap.size := by omega)
  go_wp2_with fail
  refine (toCube_any _ _ _ _ _ _ _ _ _).mono ?_
  rintro e3 w3 ⟨rfl, hB3⟩
  obtain ⟨hC3, hF3⟩ := bcell hB3
  have hS3 := hB3.size
  (try simp at hS3)
  (try have hS3_w0 : w.heap.size < w3.heap.size := by omega)
  (try have hS3_w1 : w.heap.size + 1 < w3.heap.size := by omega)
  (try have hS3_w2 : w.heap.size + 1 + 1 < w3.heap.size := by omega)
  (try have hS3_w3 : w.heap.size + 1 + 1 + 1 < w3.heap.size := by omega)
  (try have hS3_w4 : w.heap.size + 1 + 1 + 1 + 1 < w3.heap.size := by omega)
  (try have hL3_w0 : w.heap.size ≤ w3.heap.size := by omega)
  (try have hL3_w1 : w.heap.size + 1 ≤ w3.heap.size := by omega)
  (try have hL3_w2 : w.heap.size + 1 + 1 ≤ w3.heap.size := by omega)
  (try have hL3_w3 : w.heap.size + 1 + 1 + 1 ≤ w3.heap.size := by omega)
  (try have hL3_w : w.heap.size ≤ w3.heap.size + 1 := by omega)
  (try have hM3_1 : w.heap.size < w3.heap.size + 1 := by omega)
  (try have hM3_2 : w.heap.size < w3.heap.size + 1 + 1 := by omega)
  (try have hM3_3 : w.heap.size < w3.heap.size + 1 + 1 + 1 := by omega)
  (try have hN3_1_00 : w1.heap.size < w3.heap.size := by omega)
  (try have hN3_1_01 : w1.heap.size < w3.heap.size + 1 := by omega)
  (try have hN3_1_02 : w1.heap.size < w3.heap.size + 1 + 1 := by omega)
  (try have hN3_1_10 : w1.heap.size + 1 < w3.heap.size := by omega)
  (try have hN3_1_11 : w1.heap.size + 1 < w3.heap.size + 1 := by omega)
  (try have hN3_1_12 : w1.heap.size + 1 < w3.heap.size + 1 + 1 := by omega)
  (try have hN3_1_20 : w1.heap.size + 1 + 1 < w3.heap.size := by omega)
  (try have hN3_1_21 : w1.heap.size + 1 + 1 < w3.heap.size + 1 := by omega)
  (try have hN3_1_22 : w1.heap.size + 1 + 1 < w3.heap.size + 1 + 1 := by omega)
  (try have hN3_2_00 : w2.heap.size < w3.heap.size := by omega)
  (try have hN3_2_01 : w2.heap.size < w3.heap.size + 1 := by omega)
  (try have hN3_2_02 : w2.heap.size < w3.heap.size + 1 + 1 := by omega)
  (try have hN3_2_10 : w2.heap.size + 1 < w3.heap.size := by omega)
  (try have hN3_2_11 : w2.heap.size + 1 < w3.heap.size + 1 := by omega)
  (try have hN3_2_12 : w2.heap.size + 1 < w3.heap.size + 1 + 1 := by omega)
  (try have hN3_2_20 : w2.heap.size + 1 + 1 < w3.heap.size := by omega)
  (try have hN3_2_21 : w2.heap.size + 1 + 1 < w3.heap.size + 1 := by omega)
  (try have hN3_2_22 : w2.heap.size + 1 + 1 < w3.heap.size + 1 + 1 := by omega)
  (try have hL3_1 : w1.heap.size ≤ w3.heap.size := by omega)
  (try have hL3_2 : w2.heap.size ≤ w3.heap.size := by omega)
  (try have hS3_1 : w1.heap.size < w3.heap.size := by omega)
  (try have hS3_1' : w1.heap.size + 1 < w3.heap.size := by omega)
  (try have hS3_2 : w2.heap.size < w3.heap.size := by omega)
  (try have hS3_2' : w2.heap.size + 1 < w3.heap.size := by omega)
  go_wp2_with fail
  refine (implTurnCube_any _ _ _ _ _ _ _ _ _).mono ?_
  rintro e4 w4 ⟨rfl, hB4⟩
  obtain ⟨hC4, hF4⟩ := bcell hB4
  have hS4 := hB4.size
  (try simp at hS4)
  (try have hS4_w0 : w.heap.size < w4.heap.size := by omega)
  (try have hS4_w1 : w.heap.size + 1 < w4.heap.size := by omega)
  (try have hS4_w2 : w.heap.size + 1 + 1 < w4.heap.size := by omega)
  (try have hS4_w3 : w.heap.size + 1 + 1 + 1 < w4.heap.size := by omega)
  (try have hS4_w4 : w.heap.size + 1 + 1 + 1 + 1 < w4.heap.size := by omega)
  (try have hL4_w0 : w.heap.size ≤ w4.heap.size := by omega)
  (try have hL4_w1 : w.heap.size + 1 ≤ w4.heap.size := by omega)
  (try have hL4_w2 : w.heap.size + 1 + 1 ≤ w4.heap.size := by omega)
  (try have hL4_w3 : w.heap.size + 1 + 1 + 1 ≤ w4.heap.size := by omega)
  (try have hL4_w : w.heap.size ≤ w4.heap.size + 1 := by omega)
  (try have hM4_1 : w.heap.size < w4.heap.size + 1 := by omega)
  (try have hM4_2 : w.heap.size < w4.heap.size + 1 + 1 := by omega)
  (try have hM4_3 : w.heap.size < w4.heap.size + 1 + 1 + 1 := by omega)
  (try have hN4_1_00 : w1.heap.size < w4.heap.size := by omega)
  (try have hN4_1_01 : w1.heap.size < w4.heap.size + 1 := by omega)
  (try have hN4_1_02 : w1.heap.size < w4.heap.size + 1 + 1 := by omega)
  (try have hN4_1_10 : w1.heap.size + 1 < w4.heap.size := by omega)
  (try have hN4_1_11 : w1.heap.size + 1 < w4.heap.size + 1 := by omega)
  (try have hN4_1_12 : w1.heap.size + 1 < w4.heap.size + 1 + 1 := by omega)
  (try have hN4_1_20 : w1.heap.size + 1 + 1 < w4.heap.size := by omega)
  (try have hN4_1_21 : w1.heap.size + 1 + 1 < w4.heap.size + 1 := by omega)
  (try have hN4_1_22 : w1.heap.size + 1 + 1 < w4.heap.size + 1 + 1 := by omega)
  (try have hN4_2_00 : w2.heap.size < w4.heap.size := by omega)
  (try have hN4_2_01 : w2.heap.size < w4.heap.size + 1 := by omega)
  (try have hN4_2_02 : w2.heap.size < w4.heap.size + 1 + 1 := by omega)
  (try have hN4_2_10 : w2.heap.size + 1 < w4.heap.size := by omega)
  (try have hN4_2_11 : w2.heap.size + 1 < w4.heap.size + 1 := by omega)
  (try have hN4_2_12 : w2.heap.size + 1 < w4.heap.size + 1 + 1 := by omega)
  (try have hN4_2_20 : w2.heap.size + 1 + 1 < w4.heap.size := by omega)
  (try have hN4_2_21 : w2.heap.size + 1 + 1 < w4.heap.size + 1 := by omega)
  (try have hN4_2_22 : w2.heap.size + 1 + 1 < w4.heap.size + 1 + 1 := by omega)
  (try have hN4_3_00 : w3.heap.size < w4.heap.size := by omega)
  (try have hN4_3_01 : w3.heap.size < w4.heap.size + 1 := by omega)
  (try have hN4_3_02 : w3.heap.size < w4.heap.size + 1 + 1 := by omega)
  (try have hN4_3_10 : w3.heap.size + 1 < w4.heap.size := by omega)
  (try have hN4_3_11 : w3.heap.size + 1 < w4.heap.size + 1 := by omega)
  (try have hN4_3_12 : w3.heap.size + 1 < w4.heap.size + 1 + 1 := by omega)
  (try have hN4_3_20 : w3.heap.size + 1 + 1 < w4.heap.size := by omega)
  (try have hN4_3_21 : w3.heap.size + 1 + 1 < w4.heap.size + 1 := by omega)
  (try have hN4_3_22 : w3.heap.size + 1 + 1 < w4.heap.size + 1 + 1 := by omega)
  (try have hL4_1 : w1.heap.size ≤ w4.heap.size := by omega)
  (try have hL4_2 : w2.heap.size ≤ w4.heap.size := by omega)
  (try have hL4_3 : w3.heap.size ≤ w4.heap.size := by omega)
  (try have hS4_1 : w1.heap.size < w4.heap.size := by omega)
  (try have hS4_1' : w1.heap.size + 1 < w4.heap.size := by omega)
  (try have hS4_2 : w2.heap.size < w4.heap.size := by omega)
  (try have hS4_2' : w2.heap.size + 1 < w4.heap.size := by omega)
  (try have hS4_3 : w3.heap.size < w4.heap.size := by omega)
  (try have hS4_3' : w3.heap.size + 1 < w4.heap.size := by omega)
  go_wp2_with fail
  refine (eqCube_same _ _ _ _ _ _ _ _ _).mono ?_
  rintro e5 w5 ⟨rfl, hB5⟩
  obtain ⟨hC5, hF5⟩ := bcell hB5
  have hS5 := hB5.size
  (try simp at hS5)
  (try have hS5_w0 : w.heap.size < w5.heap.size := by omega)
  (try have hS5_w1 : w.heap.size + 1 < w5.heap.size := by omega)
  (try have hS5_w2 : w.heap.size + 1 + 1 < w5.heap.size := by omega)
  (try have hS5_w3 : w.heap.size + 1 + 1 + 1 < w5.heap.size := by omega)
  (try have hS5_w4 : w.heap.size + 1 + 1 + 1 + 1 < w5.heap.size := by omega)
  (try have hL5_w0 : w.heap.size ≤ w5.heap.size := by omega)
  (try have hL5_w1 : w.heap.size + 1 ≤ w5.heap.size := by omega)
  (try have hL5_w2 : w.heap.size + 1 + 1 ≤ w5.heap.size := by omega)
  (try have hL5_w3 : w.heap.size + 1 + 1 + 1 ≤ w5.heap.size := by omega)
  (try have hL5_w : w.heap.size ≤ w5.heap.size + 1 := by omega)
  (try have hM5_1 : w.heap.size < w5.heap.size + 1 := by omega)
  (try have hM5_2 : w.heap.size < w5.heap.size + 1 + 1 := by omega)
  (try have hM5_3 : w.heap.size < w5.heap.size + 1 + 1 + 1 := by omega)
  (try have hN5_2_00 : w2.heap.size < w5.heap.size := by omega)
  (try have hN5_2_01 : w2.heap.size < w5.heap.size + 1 := by omega)
  (try have hN5_2_02 : w2.heap.size < w5.heap.size + 1 + 1 := by omega)
  (try have hN5_2_10 : w2.heap.size + 1 < w5.heap.size := by omega)
  (try have hN5_2_11 : w2.heap.size + 1 < w5.heap.size + 1 := by omega)
  (try have hN5_2_12 : w2.heap.size + 1 < w5.heap.size + 1 + 1 := by omega)
  (try have hN5_2_20 : w2.heap.size + 1 + 1 < w5.heap.size := by omega)
  (try have hN5_2_21 : w2.heap.size + 1 + 1 < w5.heap.size + 1 := by omega)
  (try have hN5_2_22 : w2.heap.size + 1 + 1 < w5.heap.size + 1 + 1 := by omega)
  (try have hN5_3_00 : w3.heap.size < w5.heap.size := by omega)
  (try have hN5_3_01 : w3.heap.size < w5.heap.size + 1 := by omega)
  (try have hN5_3_02 : w3.heap.size < w5.heap.size + 1 + 1 := by omega)
  (try have hN5_3_10 : w3.heap.size + 1 < w5.heap.size := by omega)
  (try have hN5_3_11 : w3.heap.size + 1 < w5.heap.size + 1 := by omega)
  (try have hN5_3_12 : w3.heap.size + 1 < w5.heap.size + 1 + 1 := by omega)
  (try have hN5_3_20 : w3.heap.size + 1 + 1 < w5.heap.size := by omega)
  (try have hN5_3_21 : w3.heap.size + 1 + 1 < w5.heap.size + 1 := by omega)
  (try have hN5_3_22 : w3.heap.size + 1 + 1 < w5.heap.size + 1 + 1 := by omega)
  (try have hN5_4_00 : w4.heap.size < w5.heap.size := by omega)
  (try have hN5_4_01 : w4.heap.size < w5.heap.size + 1 := by omega)
  (try have hN5_4_02 : w4.heap.size < w5.heap.size + 1 + 1 := by omega)
  (try have hN5_4_10 : w4.heap.size + 1 < w5.heap.size := by omega)
  (try have hN5_4_11 : w4.heap.size + 1 < w5.heap.size + 1 := by omega)
  (try have hN5_4_12 : w4.heap.size + 1 < w5.heap.size + 1 + 1 := by omega)
  (try have hN5_4_20 : w4.heap.size + 1 + 1 < w5.heap.size := by omega)
  (try have hN5_4_21 : w4.heap.size + 1 + 1 < w5.heap.size + 1 := by omega)
  (try have hN5_4_22 : w4.heap.size + 1 + 1 < w5.heap.size + 1 + 1 := by omega)
  (try have hL5_1 : w1.heap.size ≤ w5.heap.size := by omega)
  (try have hL5_2 : w2.heap.size ≤ w5.heap.size := by omega)
  (try have hL5_3 : w3.heap.size ≤ w5.heap.size := by omega)
  (try have hL5_4 : w4.heap.size ≤ w5.heap.size := by omega)
  (try have hS5_1 : w1.heap.size < w5.heap.size := by omega)
  (try have hS5_1' : w1.heap.size + 1 < w5.heap.size := by omega)
  (try have hS5_2 : w2.heap.size < w5.heap.size := by omega)
  (try have hS5_2' : w2.heap.size + 1 < w5.heap.size := by omega)
  (try have hS5_3 : w3.heap.size < w5.heap.size := by omega)
  (try have hS5_3' : w3.heap.size + 1 < w5.heap.size := by omega)
  (try have hS5_4 : w4.heap.size < w5.heap.size := by omega)
  (try have hS5_4' : w4.heap.size + 1 < w5.heap.size := by omega)
  go_wp2
  go_ret
  refine ⟨rfl, ?_⟩
  repeat (first | with_reducible exact Below.refl _ _ | with_reducible assumption | ((with_reducible refine blA ?_ ?_); (focus (first | omega | (simp <;> omega)))) | (with_reducible refine blD ?_) | (with_reducible refine blN ?_) | ((with_reducible refine blS ?_ ?_); (focus (first | omega | (simp <;> omega)))) | ((with_reducible refine blT (by assumption) ?_ ?_); (focus (first | omega | (simp <;> omega)))))

set_option maxHeartbeats 800000 in
theorem implSwapCube_any (x0 x1 x2 x3 x4 x5 x6 x7 : Int) (w : World) :
    Calls Try.prog 17 #[.agg #[.int .i64 x0, .int .i64 x1, .int .i64 x2, .int .i64 x3, .int .i64 x4, .int .i64 x5, .int .i64 x6, .int .i64 x7]] w fun e w' => e = .returned (.tuple #[.agg #[.int .i64 (cz (cubeB x0 x1 x2 x3 x4 x5 x6 x7) x0), .int .i64 (cz (cubeB x0 x1 x2 x3 x4 x5 x6 x7) x2), .int .i64 (cz (cubeB x0 x1 x2 x3 x4 x5 x6 x7) x1), .int .i64 (cz (cubeB x0 x1 x2 x3 x4 x5 x6 x7) x3), .int .i64 (cz (cubeB x0 x1 x2 x3 x4 x5 x6 x7) x4), .int .i64 (cz (cubeB x0 x1 x2 x3 x4 x5 x6 x7) x6), .int .i64 (cz (cubeB x0 x1 x2 x3 x4 x5 x6 x7) x5), .int .i64 (cz (cubeB x0 x1 x2 x3 x4 x5 x6 x7) x7)], .bool (cubeB x0 x1 x2 x3 x4 x5 x6 x7)]) ∧ Below w.heap.size w w' := by
  by_cases c1 : cubeB x0 x1 x2 x3 x4 x5 x6 x7 = true
  · go_enter Try.func17, Try.ntmps17
    go_wp2_with (first | (go_at_call 13; refine (IsCube_any _ _ _ _ _ _ _ _ _).mono ?_; rintro e w' ⟨rfl, hB⟩; obtain ⟨hC, hF⟩ := bcell hB; have hS := hB.size; (try simp at hS); (try have hSl := Nat.lt_of_succ_le hS); (try have hS0 : w.heap.size < w'.heap.size := by omega); (try have hS1 : w.heap.size + 1 < w'.heap.size := by omega); (try have hS2 : w.heap.size + 1 + 1 < w'.heap.size := by omega); (try have hS3 : w.heap.size + 1 + 1 + 1 < w'.heap.size := by omega)))
    refine bodyPost_ret (v := .tuple #[.agg #[.int .i64 x0, .int .i64 x2, .int .i64 x1, .int .i64 x3, .int .i64 x4, .int .i64 x6, .int .i64 x5, .int .i64 x7], .bool true]) (by go_light; simp [results, Try.results17, go_sem, *]) rfl ⟨by rw [c1]; rfl, ?_⟩
    repeat (first | with_reducible exact Below.refl _ _ | with_reducible assumption | ((with_reducible refine blA ?_ ?_); (focus (first | omega | (simp <;> omega)))) | (with_reducible refine blD ?_) | (with_reducible refine blN ?_) | ((with_reducible refine blS ?_ ?_); (focus (first | omega | (simp <;> omega)))) | ((with_reducible refine blT (by assumption) ?_ ?_); (focus (first | omega | (simp <;> omega)))))
  · have c1' : cubeB x0 x1 x2 x3 x4 x5 x6 x7 = false := by simpa using c1
    clear c1
    go_enter Try.func17, Try.ntmps17
    go_wp2_with (first | (go_at_call 13; refine (IsCube_any _ _ _ _ _ _ _ _ _).mono ?_; rintro e w' ⟨rfl, hB⟩; obtain ⟨hC, hF⟩ := bcell hB; have hS := hB.size; (try simp at hS); (try have hSl := Nat.lt_of_succ_le hS); (try have hS0 : w.heap.size < w'.heap.size := by omega); (try have hS1 : w.heap.size + 1 < w'.heap.size := by omega); (try have hS2 : w.heap.size + 1 + 1 < w'.heap.size := by omega); (try have hS3 : w.heap.size + 1 + 1 + 1 < w'.heap.size := by omega)))
    refine bodyPost_ret (v := .tuple #[.agg #[.int .i64 0, .int .i64 0, .int .i64 0, .int .i64 0, .int .i64 0, .int .i64 0, .int .i64 0, .int .i64 0], .bool false]) (by go_light; simp [results, Try.results17, go_sem, *]) rfl ⟨by rw [c1']; rfl, ?_⟩
    repeat (first | with_reducible exact Below.refl _ _ | with_reducible assumption | ((with_reducible refine blA ?_ ?_); (focus (first | omega | (simp <;> omega)))) | (with_reducible refine blD ?_) | (with_reducible refine blN ?_) | ((with_reducible refine blS ?_ ?_); (focus (first | omega | (simp <;> omega)))) | ((with_reducible refine blT (by assumption) ?_ ?_); (focus (first | omega | (simp <;> omega)))))

set_option maxHeartbeats 800000 in
theorem specSwapCube_any (x0 x1 x2 x3 x4 x5 x6 x7 : Int) (w : World) :
    Calls Try.prog 16 #[.agg #[.int .i64 x0, .int .i64 x1, .int .i64 x2, .int .i64 x3, .int .i64 x4, .int .i64 x5, .int .i64 x6, .int .i64 x7]] w fun e w' => e = .returned (.tuple #[.agg #[.int .i64 (cz (cubeB x0 x1 x2 x3 x4 x5 x6 x7) x0), .int .i64 (cz (cubeB x0 x1 x2 x3 x4 x5 x6 x7) x2), .int .i64 (cz (cubeB x0 x1 x2 x3 x4 x5 x6 x7) x1), .int .i64 (cz (cubeB x0 x1 x2 x3 x4 x5 x6 x7) x3), .int .i64 (cz (cubeB x0 x1 x2 x3 x4 x5 x6 x7) x4), .int .i64 (cz (cubeB x0 x1 x2 x3 x4 x5 x6 x7) x6), .int .i64 (cz (cubeB x0 x1 x2 x3 x4 x5 x6 x7) x5), .int .i64 (cz (cubeB x0 x1 x2 x3 x4 x5 x6 x7) x7)], .bool (cubeB x0 x1 x2 x3 x4 x5 x6 x7)]) ∧ Below w.heap.size w w' := by
  by_cases c1 : cubeB x0 x1 x2 x3 x4 x5 x6 x7 = true
  · go_enter Try.func16, Try.ntmps16
    go_wp2_with (first | (go_at_call 31; refine (cuIn_any _ _ _ _ _ _ _ _ _).mono ?_; rintro e w' ⟨rfl, hB⟩; obtain ⟨hC, hF⟩ := bcell hB; have hS := hB.size; (try simp at hS); (try have hSl := Nat.lt_of_succ_le hS); (try have hS0 : w.heap.size < w'.heap.size := by omega); (try have hS1 : w.heap.size + 1 < w'.heap.size := by omega); (try have hS2 : w.heap.size + 1 + 1 < w'.heap.size := by omega); (try have hS3 : w.heap.size + 1 + 1 + 1 < w'.heap.size := by omega)))
    refine bodyPost_ret (v := .tuple #[.agg #[.int .i64 x0, .int .i64 x2, .int .i64 x1, .int .i64 x3, .int .i64 x4, .int .i64 x6, .int .i64 x5, .int .i64 x7], .bool true]) (by go_light; simp [results, Try.results16, go_sem, *]) rfl ⟨by rw [c1]; rfl, ?_⟩
    repeat (first | with_reducible exact Below.refl _ _ | with_reducible assumption | ((with_reducible refine blA ?_ ?_); (focus (first | omega | (simp <;> omega)))) | (with_reducible refine blD ?_) | (with_reducible refine blN ?_) | ((with_reducible refine blS ?_ ?_); (focus (first | omega | (simp <;> omega)))) | ((with_reducible refine blT (by assumption) ?_ ?_); (focus (first | omega | (simp <;> omega)))))
  · have c1' : cubeB x0 x1 x2 x3 x4 x5 x6 x7 = false := by simpa using c1
    clear c1
    go_enter Try.func16, Try.ntmps16
    go_wp2_with (first | (go_at_call 31; refine (cuIn_any _ _ _ _ _ _ _ _ _).mono ?_; rintro e w' ⟨rfl, hB⟩; obtain ⟨hC, hF⟩ := bcell hB; have hS := hB.size; (try simp at hS); (try have hSl := Nat.lt_of_succ_le hS); (try have hS0 : w.heap.size < w'.heap.size := by omega); (try have hS1 : w.heap.size + 1 < w'.heap.size := by omega); (try have hS2 : w.heap.size + 1 + 1 < w'.heap.size := by omega); (try have hS3 : w.heap.size + 1 + 1 + 1 < w'.heap.size := by omega)))
    refine bodyPost_ret (v := .tuple #[.agg #[.int .i64 0, .int .i64 0, .int .i64 0, .int .i64 0, .int .i64 0, .int .i64 0, .int .i64 0, .int .i64 0], .bool false]) (by go_light; simp [results, Try.results16, go_sem, *]) rfl ⟨by rw [c1']; rfl, ?_⟩
    repeat (first | with_reducible exact Below.refl _ _ | with_reducible assumption | ((with_reducible refine blA ?_ ?_); (focus (first | omega | (simp <;> omega)))) | (with_reducible refine blD ?_) | (with_reducible refine blN ?_) | ((with_reducible refine blS ?_ ?_); (focus (first | omega | (simp <;> omega)))) | ((with_reducible refine blT (by assumption) ?_ ?_); (focus (first | omega | (simp <;> omega)))))

set_option maxRecDepth 100000 in
set_option maxHeartbeats 1000000 in
theorem law_swapCube (x0 x1 x2 x3 x4 x5 x6 x7 : Int) (w : World) (_ : I64 x0) (_ : I64 x1) (_ : I64 x2) (_ : I64 x3) (_ : I64 x4) (_ : I64 x5) (_ : I64 x6) (_ : I64 x7) :
    Calls Try.prog 5 #[.agg #[.int .i64 x0, .int .i64 x1, .int .i64 x2, .int .i64 x3, .int .i64 x4, .int .i64 x5, .int .i64 x6, .int .i64 x7]] w fun e w' => e = .returned (.bool true) ∧ Below w.heap.size w w' := by
  go_enter Try.func5, Try.ntmps5
  go_wp2_with fail
  refine (toCube_any _ _ _ _ _ _ _ _ _).mono ?_
  rintro e1 w1 ⟨rfl, hB1⟩
  obtain ⟨hC1, hF1⟩ := bcell hB1
  have hS1 := hB1.size
  (try simp at hS1)
  (try have hS1_w0 : w.heap.size < w1.heap.size := by omega)
  (try have hS1_w1 : w.heap.size + 1 < w1.heap.size := by omega)
  (try have hS1_w2 : w.heap.size + 1 + 1 < w1.heap.size := by omega)
  (try have hS1_w3 : w.heap.size + 1 + 1 + 1 < w1.heap.size := by omega)
  (try have hS1_w4 : w.heap.size + 1 + 1 + 1 + 1 < w1.heap.size := by omega)
  (try have hL1_w0 : w.heap.size ≤ w1.heap.size := by omega)
  (try have hL1_w1 : w.heap.size + 1 ≤ w1.heap.size := by omega)
  (try have hL1_w2 : w.heap.size + 1 + 1 ≤ w1.heap.size := by omega)
  (try have hL1_w3 : w.heap.size + 1 + 1 + 1 ≤ w1.heap.size := by omega)
  (try have hL1_w : w.heap.size ≤ w1.heap.size + 1 := by omega)
  (try have hM1_1 : w.heap.size < w1.heap.size + 1 := by omega)
  (try have hM1_2 : w.heap.size < w1.heap.size + 1 + 1 := by omega)
  (try have hM1_3 : w.heap.size < w1.heap.size + 1 + 1 + 1 := by omega)
  go_wp2_with fail
  refine (specSwapCube_any _ _ _ _ _ _ _ _ _).mono ?_
  rintro e2 w2 ⟨rfl, hB2⟩
  obtain ⟨hC2, hF2⟩ := bcell hB2
  have hS2 := hB2.size
  (try simp at hS2)
  (try have hS2_w0 : w.heap.size < w2.heap.size := by omega)
  (try have hS2_w1 : w.heap.size + 1 < w2.heap.size := by omega)
  (try have hS2_w2 : w.heap.size + 1 + 1 < w2.heap.size := by omega)
  (try have hS2_w3 : w.heap.size + 1 + 1 + 1 < w2.heap.size := by omega)
  (try have hS2_w4 : w.heap.size + 1 + 1 + 1 + 1 < w2.heap.size := by omega)
  (try have hL2_w0 : w.heap.size ≤ w2.heap.size := by omega)
  (try have hL2_w1 : w.heap.size + 1 ≤ w2.heap.size := by omega)
  (try have hL2_w2 : w.heap.size + 1 + 1 ≤ w2.heap.size := by omega)
  (try have hL2_w3 : w.heap.size + 1 + 1 + 1 ≤ w2.heap.size := by omega)
  (try have hL2_w : w.heap.size ≤ w2.heap.size + 1 := by omega)
  (try have hM2_1 : w.heap.size < w2.heap.size + 1 := by omega)
  (try have hM2_2 : w.heap.size < w2.heap.size + 1 + 1 := by omega)
  (try have hM2_3 : w.heap.size < w2.heap.size + 1 + 1 + 1 := by omega)
  (try have hN2_1_00 : w1.heap.size < w2.heap.size := by omega)
  (try have hN2_1_01 : w1.heap.size < w2.heap.size + 1 := by omega)
  (try have hN2_1_02 : w1.heap.size < w2.heap.size + 1 + 1 := by omega)
  (try have hN2_1_10 : w1.heap.size + 1 < w2.heap.size := by omega)
  (try have hN2_1_11 : w1.heap.size + 1 < w2.heap.size + 1 := by omega)
  (try have hN2_1_12 : w1.heap.size + 1 < w2.heap.size + 1 + 1 := by omega)
  (try have hN2_1_20 : w1.heap.size + 1 + 1 < w2.heap.size := by omega)
  (try have hN2_1_21 : w1.heap.size + 1 + 1 < w2.heap.size + 1 := by omega)
  (try have hN2_1_22 : w1.heap.size + 1 + 1 < w2.heap.size + 1 + 1 := by omega)
  (try have hL2_1 : w1.heap.size ≤ w2.heap.size := by omega)
  (try have hS2_1 : w1.heap.size < w2.heap.size := by omega)
  (try have hS2_1' : w1.heap.size + 1 < w2.heap.size := by omega)
  go_wp2_with fail
  refine (toCube_any _ _ _ _ _ _ _ _ _).mono ?_
  rintro e3 w3 ⟨rfl, hB3⟩
  obtain ⟨hC3, hF3⟩ := bcell hB3
  have hS3 := hB3.size
  (try simp at hS3)
  (try have hS3_w0 : w.heap.size < w3.heap.size := by omega)
  (try have hS3_w1 : w.heap.size + 1 < w3.heap.size := by omega)
  (try have hS3_w2 : w.heap.size + 1 + 1 < w3.heap.size := by omega)
  (try have hS3_w3 : w.heap.size + 1 + 1 + 1 < w3.heap.size := by omega)
  (try have hS3_w4 : w.heap.size + 1 + 1 + 1 + 1 < w3.heap.size := by omega)
  (try have hL3_w0 : w.heap.size ≤ w3.heap.size := by omega)
  (try have hL3_w1 : w.heap.size + 1 ≤ w3.heap.size := by omega)
  (try have hL3_w2 : w.heap.size + 1 + 1 ≤ w3.heap.size := by omega)
  (try have hL3_w3 : w.heap.size + 1 + 1 + 1 ≤ w3.heap.size := by omega)
  (try have hL3_w : w.heap.size ≤ w3.heap.size + 1 := by omega)
  (try have hM3_1 : w.heap.size < w3.heap.size + 1 := by omega)
  (try have hM3_2 : w.heap.size < w3.heap.size + 1 + 1 := by omega)
  (try have hM3_3 : w.heap.size < w3.heap.size + 1 + 1 + 1 := by omega)
  (try have hN3_1_00 : w1.heap.size < w3.heap.size := by omega)
  (try have hN3_1_01 : w1.heap.size < w3.heap.size + 1 := by omega)
  (try have hN3_1_02 : w1.heap.size < w3.heap.size + 1 + 1 := by omega)
  (try have hN3_1_10 : w1.heap.size + 1 < w3.heap.size := by omega)
  (try have hN3_1_11 : w1.heap.size + 1 < w3.heap.size + 1 := by omega)
  (try have hN3_1_12 : w1.heap.size + 1 < w3.heap.size + 1 + 1 := by omega)
  (try have hN3_1_20 : w1.heap.size + 1 + 1 < w3.heap.size := by omega)
  (try have hN3_1_21 : w1.heap.size + 1 + 1 < w3.heap.size + 1 := by omega)
  (try have hN3_1_22 : w1.heap.size + 1 + 1 < w3.heap.size + 1 + 1 := by omega)
  (try have hN3_2_00 : w2.heap.size < w3.heap.size := by omega)
  (try have hN3_2_01 : w2.heap.size < w3.heap.size + 1 := by omega)
  (try have hN3_2_02 : w2.heap.size < w3.heap.size + 1 + 1 := by omega)
  (try have hN3_2_10 : w2.heap.size + 1 < w3.heap.size := by omega)
  (try have hN3_2_11 : w2.heap.size + 1 < w3.heap.size + 1 := by omega)
  (try have hN3_2_12 : w2.heap.size + 1 < w3.heap.size + 1 + 1 := by omega)
  (try have hN3_2_20 : w2.heap.size + 1 + 1 < w3.heap.size := by omega)
  (try have hN3_2_21 : w2.heap.size + 1 + 1 < w3.heap.size + 1 := by omega)
  (try have hN3_2_22 : w2.heap.size + 1 + 1 < w3.heap.size + 1 + 1 := by omega)
  (try have hL3_1 : w1.heap.size ≤ w3.heap.size := by omega)
  (try have hL3_2 : w2.heap.size ≤ w3.heap.size := by omega)
  (try have hS3_1 : w1.heap.size < w3.heap.size := by omega)
  (try have hS3_1' : w1.heap.size + 1 < w3.heap.size := by omega)
  (try have hS3_2 : w2.heap.size < w3.heap.size := by omega)
  (try have hS3_2' : w2.heap.size + 1 < w3.heap.size := by omega)
  go_wp2_with fail
  refine (implSwapCube_any _ _ _ _ _ _ _ _ _).mono ?_
  rintro e4 w4 ⟨rfl, hB4⟩
  obtain ⟨hC4, hF4⟩ := bcell hB4
  have hS4 := hB4.size
  (try simp at hS4)
  (try have hS4_w0 : w.heap.size < w4.heap.size := by omega)
  (try have hS4_w1 : w.heap.size + 1 < w4.heap.size := by omega)
  (try have hS4_w2 : w.heap.size + 1 + 1 < w4.heap.size := by omega)
  (try have hS4_w3 : w.heap.size + 1 + 1 + 1 < w4.heap.size := by omega)
  (try have hS4_w4 : w.heap.size + 1 + 1 + 1 + 1 < w4.heap.size := by omega)
  (try have hL4_w0 : w.heap.size ≤ w4.heap.size := by omega)
  (try have hL4_w1 : w.heap.size + 1 ≤ w4.heap.size := by omega)
  (try have hL4_w2 : w.heap.size + 1 + 1 ≤ w4.heap.size := by omega)
  (try have hL4_w3 : w.heap.size + 1 + 1 + 1 ≤ w4.heap.size := by omega)
  (try have hL4_w : w.heap.size ≤ w4.heap.size + 1 := by omega)
  (try have hM4_1 : w.heap.size < w4.heap.size + 1 := by omega)
  (try have hM4_2 : w.heap.size < w4.heap.size + 1 + 1 := by omega)
  (try have hM4_3 : w.heap.size < w4.heap.size + 1 + 1 + 1 := by omega)
  (try have hN4_1_00 : w1.heap.size < w4.heap.size := by omega)
  (try have hN4_1_01 : w1.heap.size < w4.heap.size + 1 := by omega)
  (try have hN4_1_02 : w1.heap.size < w4.heap.size + 1 + 1 := by omega)
  (try have hN4_1_10 : w1.heap.size + 1 < w4.heap.size := by omega)
  (try have hN4_1_11 : w1.heap.size + 1 < w4.heap.size + 1 := by omega)
  (try have hN4_1_12 : w1.heap.size + 1 < w4.heap.size + 1 + 1 := by omega)
  (try have hN4_1_20 : w1.heap.size + 1 + 1 < w4.heap.size := by omega)
  (try have hN4_1_21 : w1.heap.size + 1 + 1 < w4.heap.size + 1 := by omega)
  (try have hN4_1_22 : w1.heap.size + 1 + 1 < w4.heap.size + 1 + 1 := by omega)
  (try have hN4_2_00 : w2.heap.size < w4.heap.size := by omega)
  (try have hN4_2_01 : w2.heap.size < w4.heap.size + 1 := by omega)
  (try have hN4_2_02 : w2.heap.size < w4.heap.size + 1 + 1 := by omega)
  (try have hN4_2_10 : w2.heap.size + 1 < w4.heap.size := by omega)
  (try have hN4_2_11 : w2.heap.size + 1 < w4.heap.size + 1 := by omega)
  (try have hN4_2_12 : w2.heap.size + 1 < w4.heap.size + 1 + 1 := by omega)
  (try have hN4_2_20 : w2.heap.size + 1 + 1 < w4.heap.size := by omega)
  (try have hN4_2_21 : w2.heap.size + 1 + 1 < w4.heap.size + 1 := by omega)
  (try have hN4_2_22 : w2.heap.size + 1 + 1 < w4.heap.size + 1 + 1 := by omega)
  (try have hN4_3_00 : w3.heap.size < w4.heap.size := by omega)
  (try have hN4_3_01 : w3.heap.size < w4.heap.size + 1 := by omega)
  (try have hN4_3_02 : w3.heap.size < w4.heap.size + 1 + 1 := by omega)
  (try have hN4_3_10 : w3.heap.size + 1 < w4.heap.size := by omega)
  (try have hN4_3_11 : w3.heap.size + 1 < w4.heap.size + 1 := by omega)
  (try have hN4_3_12 : w3.heap.size + 1 < w4.heap.size + 1 + 1 := by omega)
  (try have hN4_3_20 : w3.heap.size + 1 + 1 < w4.heap.size := by omega)
  (try have hN4_3_21 : w3.heap.size + 1 + 1 < w4.heap.size + 1 := by omega)
  (try have hN4_3_22 : w3.heap.size + 1 + 1 < w4.heap.size + 1 + 1 := by omega)
  (try have hL4_1 : w1.heap.size ≤ w4.heap.size := by omega)
  (try have hL4_2 : w2.heap.size ≤ w4.heap.size := by omega)
  (try have hL4_3 : w3.heap.size ≤ w4.heap.size := by omega)
  (try have hS4_1 : w1.heap.size < w4.heap.size := by omega)
  (try have hS4_1' : w1.heap.size + 1 < w4.heap.size := by omega)
  (try have hS4_2 : w2.heap.size < w4.heap.size := by omega)
  (try have hS4_2' : w2.heap.size + 1 < w4.heap.size := by omega)
  (try have hS4_3 : w3.heap.size < w4.heap.size := by omega)
  (try have hS4_3' : w3.heap.size + 1 < w4.heap.size := by omega)
  go_wp2_with fail
  refine (eqCube_same _ _ _ _ _ _ _ _ _).mono ?_
  rintro e5 w5 ⟨rfl, hB5⟩
  obtain ⟨hC5, hF5⟩ := bcell hB5
  have hS5 := hB5.size
  (try simp at hS5)
  (try have hS5_w0 : w.heap.size < w5.heap.size := by omega)
  (try have hS5_w1 : w.heap.size + 1 < w5.heap.size := by omega)
  (try have hS5_w2 : w.heap.size + 1 + 1 < w5.heap.size := by omega)
  (try have hS5_w3 : w.heap.size + 1 + 1 + 1 < w5.heap.size := by omega)
  (try have hS5_w4 : w.heap.size + 1 + 1 + 1 + 1 < w5.heap.size := by omega)
  (try have hL5_w0 : w.heap.size ≤ w5.heap.size := by omega)
  (try have hL5_w1 : w.heap.size + 1 ≤ w5.heap.size := by omega)
  (try have hL5_w2 : w.heap.size + 1 + 1 ≤ w5.heap.size := by omega)
  (try have hL5_w3 : w.heap.size + 1 + 1 + 1 ≤ w5.heap.size := by omega)
  (try have hL5_w : w.heap.size ≤ w5.heap.size + 1 := by omega)
  (try have hM5_1 : w.heap.size < w5.heap.size + 1 := by omega)
  (try have hM5_2 : w.heap.size < w5.heap.size + 1 + 1 := by omega)
  (try have hM5_3 : w.heap.size < w5.heap.size + 1 + 1 + 1 := by omega)
  (try have hN5_2_00 : w2.heap.size < w5.heap.size := by omega)
  (try have hN5_2_01 : w2.heap.size < w5.heap.size + 1 := by omega)
  (try have hN5_2_02 : w2.heap.size < w5.heap.size + 1 + 1 := by omega)
  (try have hN5_2_10 : w2.heap.size + 1 < w5.heap.size := by omega)
  (try have hN5_2_11 : w2.heap.size + 1 < w5.heap.size + 1 := by omega)
  (try have hN5_2_12 : w2.heap.size + 1 < w5.heap.size + 1 + 1 := by omega)
  (try have hN5_2_20 : w2.heap.size + 1 + 1 < w5.heap.size := by omega)
  (try have hN5_2_21 : w2.heap.size + 1 + 1 < w5.heap.size + 1 := by omega)
  (try have hN5_2_22 : w2.heap.size + 1 + 1 < w5.heap.size + 1 + 1 := by omega)
  (try have hN5_3_00 : w3.heap.size < w5.heap.size := by omega)
  (try have hN5_3_01 : w3.heap.size < w5.heap.size + 1 := by omega)
  (try have hN5_3_02 : w3.heap.size < w5.heap.size + 1 + 1 := by omega)
  (try have hN5_3_10 : w3.heap.size + 1 < w5.heap.size := by omega)
  (try have hN5_3_11 : w3.heap.size + 1 < w5.heap.size + 1 := by omega)
  (try have hN5_3_12 : w3.heap.size + 1 < w5.heap.size + 1 + 1 := by omega)
  (try have hN5_3_20 : w3.heap.size + 1 + 1 < w5.heap.size := by omega)
  (try have hN5_3_21 : w3.heap.size + 1 + 1 < w5.heap.size + 1 := by omega)
  (try have hN5_3_22 : w3.heap.size + 1 + 1 < w5.heap.size + 1 + 1 := by omega)
  (try have hN5_4_00 : w4.heap.size < w5.heap.size := by omega)
  (try have hN5_4_01 : w4.heap.size < w5.heap.size + 1 := by omega)
  (try have hN5_4_02 : w4.heap.size < w5.heap.size + 1 + 1 := by omega)
  (try have hN5_4_10 : w4.heap.size + 1 < w5.heap.size := by omega)
  (try have hN5_4_11 : w4.heap.size + 1 < w5.heap.size + 1 := by omega)
  (try have hN5_4_12 : w4.heap.size + 1 < w5.heap.size + 1 + 1 := by omega)
  (try have hN5_4_20 : w4.heap.size + 1 + 1 < w5.heap.size := by omega)
  (try have hN5_4_21 : w4.heap.size + 1 + 1 < w5.heap.size + 1 := by omega)
  (try have hN5_4_22 : w4.heap.size + 1 + 1 < w5.heap.size + 1 + 1 := by omega)
  (try have hL5_1 : w1.heap.size ≤ w5.heap.size := by omega)
  (try have hL5_2 : w2.heap.size ≤ w5.heap.size := by omega)
  (try have hL5_3 : w3.heap.size ≤ w5.heap.size := by omega)
  (try have hL5_4 : w4.heap.size ≤ w5.heap.size := by omega)
  (try have hS5_1 : w1.heap.size < w5.heap.size := by omega)
  (try have hS5_1' : w1.heap.size + 1 < w5.heap.size := by omega)
  (try have hS5_2 : w2.heap.size < w5.heap.size := by omega)
  (try have hS5_2' : w2.heap.size + 1 < w5.heap.size := by omega)
  (try have hS5_3 : w3.heap.size < w5.heap.size := by omega)
  (try have hS5_3' : w3.heap.size + 1 < w5.heap.size := by omega)
  (try have hS5_4 : w4.heap.size < w5.heap.size := by omega)
  (try have hS5_4' : w4.heap.size + 1 < w5.heap.size := by omega)
  go_wp2
  go_ret
  refine ⟨rfl, ?_⟩
  repeat (first | with_reducible exact Below.refl _ _ | with_reducible assumption | ((with_reducible refine blA ?_ ?_); (focus (first | omega | (simp <;> omega)))) | (with_reducible refine blD ?_) | (with_reducible refine blN ?_) | ((with_reducible refine blS ?_ ?_); (focus (first | omega | (simp <;> omega)))) | ((with_reducible refine blT (by assumption) ?_ ?_); (focus (first | omega | (simp <;> omega)))))

end Go.Proofs.Ytphmjehmeigmdaa
