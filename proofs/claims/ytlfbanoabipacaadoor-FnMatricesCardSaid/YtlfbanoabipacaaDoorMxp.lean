/-
  The product of a matrix with its inverse; values at numbers.
-/
import Derived.Test.YtlfbanoabipacaaDoorMxi
namespace Go.Proofs.YtlfbanoabipacaaDoor
open Go.RowKit
attribute [local simp, local go_sem] past_cell past_frozen past_tape
set_option maxHeartbeats 2000000 in
theorem times_any (a b c d p q r s : Int) (w : World) :
    Calls Tryd.prog 44 #[.agg #[.int .i64 a, .int .i64 b, .int .i64 c, .int .i64 d], .agg #[.int .i64 p, .int .i64 q, .int .i64 r, .int .i64 s]] w fun e w' => e = .returned (.agg #[.int .i64 (wrap64 (wrap64 (a * p) + wrap64 (b * r))), .int .i64 (wrap64 (wrap64 (a * q) + wrap64 (b * s))), .int .i64 (wrap64 (wrap64 (c * p) + wrap64 (d * r))), .int .i64 (wrap64 (wrap64 (c * q) + wrap64 (d * s)))]) ∧ Below w.heap.size w w' := by
  go_enter Tryd.func44, Tryd.ntmps44
  go_wp2
  refine bodyPost_ret (v := .agg #[.int .i64 (wrap64 (wrap64 (a * p) + wrap64 (b * r))), .int .i64 (wrap64 (wrap64 (a * q) + wrap64 (b * s))), .int .i64 (wrap64 (wrap64 (c * p) + wrap64 (d * r))), .int .i64 (wrap64 (wrap64 (c * q) + wrap64 (d * s)))]) (by go_light; simp [results, Tryd.results44, go_sem, *]) rfl ⟨rfl, ?_⟩
  repeat (first | with_reducible exact Below.refl _ _ | with_reducible assumption | ((with_reducible refine blA ?_ ?_); (focus (first | omega | (simp <;> omega)))) | (with_reducible refine blD ?_) | (with_reducible refine blN ?_) | ((with_reducible refine blS ?_ ?_); (focus (first | omega | (simp <;> omega)))) | ((with_reducible refine blT (by assumption) ?_ ?_); (focus (first | omega | (simp <;> omega)))))
theorem times_one (a b c d p q r s : Int) (w : World) (e1 : wrap64 (wrap64 (a * p) + wrap64 (b * r)) = 1) (e2 : wrap64 (wrap64 (a * q) + wrap64 (b * s)) = 0) (e3 : wrap64 (wrap64 (c * p) + wrap64 (d * r)) = 0) (e4 : wrap64 (wrap64 (c * q) + wrap64 (d * s)) = 1) :
    Calls Tryd.prog 44 #[.agg #[.int .i64 a, .int .i64 b, .int .i64 c, .int .i64 d], .agg #[.int .i64 p, .int .i64 q, .int .i64 r, .int .i64 s]] w fun en w' => en = .returned (.agg #[.int .i64 1, .int .i64 0, .int .i64 0, .int .i64 1]) ∧ Below w.heap.size w w' := by
  have h := times_any a b c d p q r s w
  rw [e1, e2, e3, e4] at h
  exact h
theorem checked_one (w : World) : Calls Tryd.prog 43 #[.agg #[.int .i64 1, .int .i64 0, .int .i64 0, .int .i64 1]] w fun en w' => en = .returned (.tuple #[.agg #[.int .i64 1, .int .i64 0, .int .i64 0, .int .i64 1], .bool true]) ∧ Below w.heap.size w w' := by
  have hb : mB 1 0 0 1 = true := by decide
  go_enter Tryd.func43, Tryd.ntmps43
  go_wp2_with fail
  refine (iMatrix_any _ _ _ _ _).mono ?_
  rintro e1 w1 ⟨rfl, hB1⟩
  obtain ⟨hC1, hF1⟩ := bcell hB1
  have hS1 := hB1.size
  (try simp at hS1)
  (try have hS1_w0 : w.heap.size < w1.heap.size := by omega)
  (try have hS1_w1 : w.heap.size + 1 < w1.heap.size := by omega)
  (try have hS1_w2 : w.heap.size + 1 + 1 < w1.heap.size := by omega)
  (try have hS1_w3 : w.heap.size + 1 + 1 + 1 < w1.heap.size := by omega)
  (try have hS1_w4 : w.heap.size + 1 + 1 + 1 + 1 < w1.heap.size := by omega)
  (try have hL1_w0 : w.heap.size ≤ w1.heap.size := by omega)
  (try have hL1_w1 : w.heap.size + 1 ≤ w1.heap.size := by omega)
  (try have hL1_w2 : w.heap.size + 1 + 1 ≤ w1.heap.size := by omega)
  (try have hL1_w3 : w.heap.size + 1 + 1 + 1 ≤ w1.heap.size := by omega)
  (try have hL1_w : w.heap.size ≤ w1.heap.size + 1 := by omega)
  (try have hM1_1 : w.heap.size < w1.heap.size + 1 := by omega)
  (try have hM1_2 : w.heap.size < w1.heap.size + 1 + 1 := by omega)
  (try have hM1_3 : w.heap.size < w1.heap.size + 1 + 1 + 1 := by omega)
  go_wp2_with fail
  refine bodyPost_ret (v := .tuple #[.agg #[.int .i64 1, .int .i64 0, .int .i64 0, .int .i64 1], .bool true]) (by go_light; simp [results, Tryd.results43, go_sem, *]) rfl ⟨rfl, ?_⟩
  repeat (first | with_reducible exact Below.refl _ _ | with_reducible assumption | ((with_reducible refine blA ?_ ?_); (focus (first | omega | (simp <;> omega)))) | (with_reducible refine blD ?_) | (with_reducible refine blN ?_) | ((with_reducible refine blS ?_ ?_); (focus (first | omega | (simp <;> omega)))) | ((with_reducible refine blT (by assumption) ?_ ?_); (focus (first | omega | (simp <;> omega)))))
theorem product_one (a b c d p q r s : Int) (w : World) (hm : mB a b c d = true) (hn : mB p q r s = true) (e1 : wrap64 (wrap64 (a * p) + wrap64 (b * r)) = 1) (e2 : wrap64 (wrap64 (a * q) + wrap64 (b * s)) = 0) (e3 : wrap64 (wrap64 (c * p) + wrap64 (d * r)) = 0) (e4 : wrap64 (wrap64 (c * q) + wrap64 (d * s)) = 1) :
    Calls Tryd.prog 16 #[.agg #[.int .i64 a, .int .i64 b, .int .i64 c, .int .i64 d], .agg #[.int .i64 p, .int .i64 q, .int .i64 r, .int .i64 s]] w fun en w' => en = .returned (.tuple #[.agg #[.int .i64 1, .int .i64 0, .int .i64 0, .int .i64 1], .bool true]) ∧ Below w.heap.size w w' := by
  go_enter Tryd.func16, Tryd.ntmps16
  go_wp2_with fail
  refine (iMatrix_any _ _ _ _ _).mono ?_
  rintro e1 w1 ⟨rfl, hB1⟩
  obtain ⟨hC1, hF1⟩ := bcell hB1
  have hS1 := hB1.size
  (try simp at hS1)
  (try have hS1_w0 : w.heap.size < w1.heap.size := by omega)
  (try have hS1_w1 : w.heap.size + 1 < w1.heap.size := by omega)
  (try have hS1_w2 : w.heap.size + 1 + 1 < w1.heap.size := by omega)
  (try have hS1_w3 : w.heap.size + 1 + 1 + 1 < w1.heap.size := by omega)
  (try have hS1_w4 : w.heap.size + 1 + 1 + 1 + 1 < w1.heap.size := by omega)
  (try have hL1_w0 : w.heap.size ≤ w1.heap.size := by omega)
  (try have hL1_w1 : w.heap.size + 1 ≤ w1.heap.size := by omega)
  (try have hL1_w2 : w.heap.size + 1 + 1 ≤ w1.heap.size := by omega)
  (try have hL1_w3 : w.heap.size + 1 + 1 + 1 ≤ w1.heap.size := by omega)
  (try have hL1_w : w.heap.size ≤ w1.heap.size + 1 := by omega)
  (try have hM1_1 : w.heap.size < w1.heap.size + 1 := by omega)
  (try have hM1_2 : w.heap.size < w1.heap.size + 1 + 1 := by omega)
  (try have hM1_3 : w.heap.size < w1.heap.size + 1 + 1 + 1 := by omega)
  go_wp2_with fail
  refine (iMatrix_any _ _ _ _ _).mono ?_
  rintro e2 w2 ⟨rfl, hB2⟩
  obtain ⟨hC2, hF2⟩ := bcell hB2
  have hS2 := hB2.size
  (try simp at hS2)
  (try have hS2_w0 : w.heap.size < w2.heap.size := by omega)
  (try have hS2_w1 : w.heap.size + 1 < w2.heap.size := by omega)
  (try have hS2_w2 : w.heap.size + 1 + 1 < w2.heap.size := by omega)
  (try have hS2_w3 : w.heap.size + 1 + 1 + 1 < w2.heap.size := by omega)
  (try have hS2_w4 : w.heap.size + 1 + 1 + 1 + 1 < w2.heap.size := by omega)
  (try have hL2_w0 : w.heap.size ≤ w2.heap.size := by omega)
  (try have hL2_w1 : w.heap.size + 1 ≤ w2.heap.size := by omega)
  (try have hL2_w2 : w.heap.size + 1 + 1 ≤ w2.heap.size := by omega)
  (try have hL2_w3 : w.heap.size + 1 + 1 + 1 ≤ w2.heap.size := by omega)
  (try have hL2_w : w.heap.size ≤ w2.heap.size + 1 := by omega)
  (try have hM2_1 : w.heap.size < w2.heap.size + 1 := by omega)
  (try have hM2_2 : w.heap.size < w2.heap.size + 1 + 1 := by omega)
  (try have hM2_3 : w.heap.size < w2.heap.size + 1 + 1 + 1 := by omega)
  (try have hN2_1_00 : w1.heap.size < w2.heap.size := by omega)
  (try have hN2_1_01 : w1.heap.size < w2.heap.size + 1 := by omega)
  (try have hN2_1_02 : w1.heap.size < w2.heap.size + 1 + 1 := by omega)
  (try have hN2_1_10 : w1.heap.size + 1 < w2.heap.size := by omega)
  (try have hN2_1_11 : w1.heap.size + 1 < w2.heap.size + 1 := by omega)
  (try have hN2_1_12 : w1.heap.size + 1 < w2.heap.size + 1 + 1 := by omega)
  (try have hN2_1_20 : w1.heap.size + 1 + 1 < w2.heap.size := by omega)
  (try have hN2_1_21 : w1.heap.size + 1 + 1 < w2.heap.size + 1 := by omega)
  (try have hN2_1_22 : w1.heap.size + 1 + 1 < w2.heap.size + 1 + 1 := by omega)
  (try have hL2_1 : w1.heap.size ≤ w2.heap.size := by omega)
  (try have hS2_1 : w1.heap.size < w2.heap.size := by omega)
  (try have hS2_1' : w1.heap.size + 1 < w2.heap.size := by omega)
  go_wp2_with fail
  refine (times_one _ _ _ _ _ _ _ _ _ e1 e2 e3 e4).mono ?_
  rintro e3 w3 ⟨rfl, hB3⟩
  obtain ⟨hC3, hF3⟩ := bcell hB3
  have hS3 := hB3.size
  (try simp at hS3)
  (try have hS3_w0 : w.heap.size < w3.heap.size := by omega)
  (try have hS3_w1 : w.heap.size + 1 < w3.heap.size := by omega)
  (try have hS3_w2 : w.heap.size + 1 + 1 < w3.heap.size := by omega)
  (try have hS3_w3 : w.heap.size + 1 + 1 + 1 < w3.heap.size := by omega)
  (try have hS3_w4 : w.heap.size + 1 + 1 + 1 + 1 < w3.heap.size := by omega)
  (try have hL3_w0 : w.heap.size ≤ w3.heap.size := by omega)
  (try have hL3_w1 : w.heap.size + 1 ≤ w3.heap.size := by omega)
  (try have hL3_w2 : w.heap.size + 1 + 1 ≤ w3.heap.size := by omega)
  (try have hL3_w3 : w.heap.size + 1 + 1 + 1 ≤ w3.heap.size := by omega)
  (try have hL3_w : w.heap.size ≤ w3.heap.size + 1 := by omega)
  (try have hM3_1 : w.heap.size < w3.heap.size + 1 := by omega)
  (try have hM3_2 : w.heap.size < w3.heap.size + 1 + 1 := by omega)
  (try have hM3_3 : w.heap.size < w3.heap.size + 1 + 1 + 1 := by omega)
  (try have hN3_1_00 : w1.heap.size < w3.heap.size := by omega)
  (try have hN3_1_01 : w1.heap.size < w3.heap.size + 1 := by omega)
  (try have hN3_1_02 : w1.heap.size < w3.heap.size + 1 + 1 := by omega)
  (try have hN3_1_10 : w1.heap.size + 1 < w3.heap.size := by omega)
  (try have hN3_1_11 : w1.heap.size + 1 < w3.heap.size + 1 := by omega)
  (try have hN3_1_12 : w1.heap.size + 1 < w3.heap.size + 1 + 1 := by omega)
  (try have hN3_1_20 : w1.heap.size + 1 + 1 < w3.heap.size := by omega)
  (try have hN3_1_21 : w1.heap.size + 1 + 1 < w3.heap.size + 1 := by omega)
  (try have hN3_1_22 : w1.heap.size + 1 + 1 < w3.heap.size + 1 + 1 := by omega)
  (try have hN3_2_00 : w2.heap.size < w3.heap.size := by omega)
  (try have hN3_2_01 : w2.heap.size < w3.heap.size + 1 := by omega)
  (try have hN3_2_02 : w2.heap.size < w3.heap.size + 1 + 1 := by omega)
  (try have hN3_2_10 : w2.heap.size + 1 < w3.heap.size := by omega)
  (try have hN3_2_11 : w2.heap.size + 1 < w3.heap.size + 1 := by omega)
  (try have hN3_2_12 : w2.heap.size + 1 < w3.heap.size + 1 + 1 := by omega)
  (try have hN3_2_20 : w2.heap.size + 1 + 1 < w3.heap.size := by omega)
  (try have hN3_2_21 : w2.heap.size + 1 + 1 < w3.heap.size + 1 := by omega)
  (try have hN3_2_22 : w2.heap.size + 1 + 1 < w3.heap.size + 1 + 1 := by omega)
  (try have hL3_1 : w1.heap.size ≤ w3.heap.size := by omega)
  (try have hL3_2 : w2.heap.size ≤ w3.heap.size := by omega)
  (try have hS3_1 : w1.heap.size < w3.heap.size := by omega)
  (try have hS3_1' : w1.heap.size + 1 < w3.heap.size := by omega)
  (try have hS3_2 : w2.heap.size < w3.heap.size := by omega)
  (try have hS3_2' : w2.heap.size + 1 < w3.heap.size := by omega)
  go_wp2_with fail
  refine (checked_one _).mono ?_
  rintro e4 w4 ⟨rfl, hB4⟩
  obtain ⟨hC4, hF4⟩ := bcell hB4
  have hS4 := hB4.size
  (try simp at hS4)
  (try have hS4_w0 : w.heap.size < w4.heap.size := by omega)
  (try have hS4_w1 : w.heap.size + 1 < w4.heap.size := by omega)
  (try have hS4_w2 : w.heap.size + 1 + 1 < w4.heap.size := by omega)
  (try have hS4_w3 : w.heap.size + 1 + 1 + 1 < w4.heap.size := by omega)
  (try have hS4_w4 : w.heap.size + 1 + 1 + 1 + 1 < w4.heap.size := by omega)
  (try have hL4_w0 : w.heap.size ≤ w4.heap.size := by omega)
  (try have hL4_w1 : w.heap.size + 1 ≤ w4.heap.size := by omega)
  (try have hL4_w2 : w.heap.size + 1 + 1 ≤ w4.heap.size := by omega)
  (try have hL4_w3 : w.heap.size + 1 + 1 + 1 ≤ w4.heap.size := by omega)
  (try have hL4_w : w.heap.size ≤ w4.heap.size + 1 := by omega)
  (try have hM4_1 : w.heap.size < w4.heap.size + 1 := by omega)
  (try have hM4_2 : w.heap.size < w4.heap.size + 1 + 1 := by omega)
  (try have hM4_3 : w.heap.size < w4.heap.size + 1 + 1 + 1 := by omega)
  (try have hN4_1_00 : w1.heap.size < w4.heap.size := by omega)
  (try have hN4_1_01 : w1.heap.size < w4.heap.size + 1 := by omega)
  (try have hN4_1_02 : w1.heap.size < w4.heap.size + 1 + 1 := by omega)
  (try have hN4_1_10 : w1.heap.size + 1 < w4.heap.size := by omega)
  (try have hN4_1_11 : w1.heap.size + 1 < w4.heap.size + 1 := by omega)
  (try have hN4_1_12 : w1.heap.size + 1 < w4.heap.size + 1 + 1 := by omega)
  (try have hN4_1_20 : w1.heap.size + 1 + 1 < w4.heap.size := by omega)
  (try have hN4_1_21 : w1.heap.size + 1 + 1 < w4.heap.size + 1 := by omega)
  (try have hN4_1_22 : w1.heap.size + 1 + 1 < w4.heap.size + 1 + 1 := by omega)
  (try have hN4_2_00 : w2.heap.size < w4.heap.size := by omega)
  (try have hN4_2_01 : w2.heap.size < w4.heap.size + 1 := by omega)
  (try have hN4_2_02 : w2.heap.size < w4.heap.size + 1 + 1 := by omega)
  (try have hN4_2_10 : w2.heap.size + 1 < w4.heap.size := by omega)
  (try have hN4_2_11 : w2.heap.size + 1 < w4.heap.size + 1 := by omega)
  (try have hN4_2_12 : w2.heap.size + 1 < w4.heap.size + 1 + 1 := by omega)
  (try have hN4_2_20 : w2.heap.size + 1 + 1 < w4.heap.size := by omega)
  (try have hN4_2_21 : w2.heap.size + 1 + 1 < w4.heap.size + 1 := by omega)
  (try have hN4_2_22 : w2.heap.size + 1 + 1 < w4.heap.size + 1 + 1 := by omega)
  (try have hN4_3_00 : w3.heap.size < w4.heap.size := by omega)
  (try have hN4_3_01 : w3.heap.size < w4.heap.size + 1 := by omega)
  (try have hN4_3_02 : w3.heap.size < w4.heap.size + 1 + 1 := by omega)
  (try have hN4_3_10 : w3.heap.size + 1 < w4.heap.size := by omega)
  (try have hN4_3_11 : w3.heap.size + 1 < w4.heap.size + 1 := by omega)
  (try have hN4_3_12 : w3.heap.size + 1 < w4.heap.size + 1 + 1 := by omega)
  (try have hN4_3_20 : w3.heap.size + 1 + 1 < w4.heap.size := by omega)
  (try have hN4_3_21 : w3.heap.size + 1 + 1 < w4.heap.size + 1 := by omega)
  (try have hN4_3_22 : w3.heap.size + 1 + 1 < w4.heap.size + 1 + 1 := by omega)
  (try have hL4_1 : w1.heap.size ≤ w4.heap.size := by omega)
  (try have hL4_2 : w2.heap.size ≤ w4.heap.size := by omega)
  (try have hL4_3 : w3.heap.size ≤ w4.heap.size := by omega)
  (try have hS4_1 : w1.heap.size < w4.heap.size := by omega)
  (try have hS4_1' : w1.heap.size + 1 < w4.heap.size := by omega)
  (try have hS4_2 : w2.heap.size < w4.heap.size := by omega)
  (try have hS4_2' : w2.heap.size + 1 < w4.heap.size := by omega)
  (try have hS4_3 : w3.heap.size < w4.heap.size := by omega)
  (try have hS4_3' : w3.heap.size + 1 < w4.heap.size := by omega)
  go_wp2_with fail
  refine bodyPost_ret (v := .tuple #[.agg #[.int .i64 1, .int .i64 0, .int .i64 0, .int .i64 1], .bool true]) (by go_light; simp [results, Tryd.results16, go_sem, *]) rfl ⟨rfl, ?_⟩
  repeat (first | with_reducible exact Below.refl _ _ | with_reducible assumption | ((with_reducible refine blA ?_ ?_); (focus (first | omega | (simp <;> omega)))) | (with_reducible refine blD ?_) | (with_reducible refine blN ?_) | ((with_reducible refine blS ?_ ?_); (focus (first | omega | (simp <;> omega)))) | ((with_reducible refine blT (by assumption) ?_ ?_); (focus (first | omega | (simp <;> omega)))))
theorem areN1 (x : Int) (g : Nat) (w : World) (hc : w.cell? ⟨g, 0, none⟩ = some (.int .i64 x)) : Calls Tryd.prog 49 #[.slice (some ⟨g, 0, none⟩) 1 1] w fun en w' => en = .returned (.bool (numB x)) ∧ w = w' := by
  have h := areNumbers_any [x] g w (by simp) (fun i hi => by match i, hi with | 0, _ => simpa using hc)
  simpa using h
theorem areN2 (x y : Int) (g : Nat) (w : World) (hc : w.cell? ⟨g, 0, none⟩ = some (.int .i64 x)) (hd : w.cell? ⟨g, 1, none⟩ = some (.int .i64 y)) : Calls Tryd.prog 49 #[.slice (some ⟨g, 0, none⟩) 2 2] w fun en w' => en = .returned (.bool (numB x && numB y)) ∧ w = w' := by
  have h := areNumbers_any [x, y] g w (by simp) (fun i hi => by match i, hi with | 0, _ => simpa using hc | 1, _ => simpa using hd)
  simpa using h
theorem areN4 (x y u v : Int) (g : Nat) (w : World) (h0 : w.cell? ⟨g, 0, none⟩ = some (.int .i64 x)) (h1 : w.cell? ⟨g, 1, none⟩ = some (.int .i64 y)) (h2 : w.cell? ⟨g, 2, none⟩ = some (.int .i64 u)) (h3 : w.cell? ⟨g, 3, none⟩ = some (.int .i64 v)) : Calls Tryd.prog 49 #[.slice (some ⟨g, 0, none⟩) 4 4] w fun en w' => en = .returned (.bool (mB x y u v)) ∧ w = w' := by
  have h := areNumbers_any [x, y, u, v] g w (by simp) (fun i hi => by match i, hi with | 0, _ => simpa using h0 | 1, _ => simpa using h1 | 2, _ => simpa using h2 | 3, _ => simpa using h3)
  simpa [mB, Bool.and_assoc] using h
theorem IsNumber_any (n : Int) (w : World) : Calls Tryd.prog 22 #[.int .i64 n] w fun en w' => en = .returned (.bool (numB n)) ∧ Below w.heap.size w w' := by
  go_enter Tryd.func22, Tryd.ntmps22
  go_wp2_with fail
  refine (areN1 n _ _ (by simp)).mono ?_
  rintro e w1 ⟨rfl, rfl⟩
  go_wp2_with fail
  go_ret
  refine ⟨rfl, ?_⟩
  repeat (first | with_reducible exact Below.refl _ _ | with_reducible assumption | ((with_reducible refine blA ?_ ?_); (focus (first | omega | (simp <;> omega)))) | (with_reducible refine blD ?_) | (with_reducible refine blN ?_) | ((with_reducible refine blS ?_ ?_); (focus (first | omega | (simp <;> omega)))) | ((with_reducible refine blT (by assumption) ?_ ?_); (focus (first | omega | (simp <;> omega)))))
theorem ValueAt_yes (a b c x y : Int) (w : World) (hf : formB a b c = true) (hx : numB x = true) (hy : numB y = true) : Calls Tryd.prog 23 #[.agg #[.int .i64 a, .int .i64 b, .int .i64 c], .int .i64 x, .int .i64 y] w fun en w' => en = .returned (.tuple #[.int .i64 (valW a b c x y), .bool true]) ∧ Below w.heap.size w w' := by
  go_enter Tryd.func23, Tryd.ntmps23
  go_wp2_with fail
  refine (IsForm_any _ _ _ _).mono ?_
  rintro e1 w1 ⟨rfl, hB1⟩
  obtain ⟨hC1, hF1⟩ := bcell hB1
  have hS1 := hB1.size
  (try simp at hS1)
  (try have hS1_w0 : w.heap.size < w1.heap.size := by omega)
  (try have hS1_w1 : w.heap.size + 1 < w1.heap.size := by omega)
  (try have hS1_w2 : w.heap.size + 1 + 1 < w1.heap.size := by omega)
  (try have hS1_w3 : w.heap.size + 1 + 1 + 1 < w1.heap.size := by omega)
  (try have hS1_w4 : w.heap.size + 1 + 1 + 1 + 1 < w1.heap.size := by omega)
  (try have hL1_w0 : w.heap.size ≤ w1.heap.size := by omega)
  (try have hL1_w1 : w.heap.size + 1 ≤ w1.heap.size := by omega)
  (try have hL1_w2 : w.heap.size + 1 + 1 ≤ w1.heap.size := by omega)
  (try have hL1_w3 : w.heap.size + 1 + 1 + 1 ≤ w1.heap.size := by omega)
  (try have hL1_w : w.heap.size ≤ w1.heap.size + 1 := by omega)
  (try have hM1_1 : w.heap.size < w1.heap.size + 1 := by omega)
  (try have hM1_2 : w.heap.size < w1.heap.size + 1 + 1 := by omega)
  (try have hM1_3 : w.heap.size < w1.heap.size + 1 + 1 + 1 := by omega)
  go_wp2_with fail
  refine (areN2 x y _ _ (by simp) (by simp)).mono ?_
  rintro e w0 ⟨rfl, rfl⟩
  go_wp2_with fail
  refine (at_any _ _ _ _ _ _).mono ?_
  rintro e2 w2 ⟨rfl, hB2⟩
  obtain ⟨hC2, hF2⟩ := bcell hB2
  have hS2 := hB2.size
  (try simp at hS2)
  (try have hS2_w0 : w.heap.size < w2.heap.size := by omega)
  (try have hS2_w1 : w.heap.size + 1 < w2.heap.size := by omega)
  (try have hS2_w2 : w.heap.size + 1 + 1 < w2.heap.size := by omega)
  (try have hS2_w3 : w.heap.size + 1 + 1 + 1 < w2.heap.size := by omega)
  (try have hS2_w4 : w.heap.size + 1 + 1 + 1 + 1 < w2.heap.size := by omega)
  (try have hL2_w0 : w.heap.size ≤ w2.heap.size := by omega)
  (try have hL2_w1 : w.heap.size + 1 ≤ w2.heap.size := by omega)
  (try have hL2_w2 : w.heap.size + 1 + 1 ≤ w2.heap.size := by omega)
  (try have hL2_w3 : w.heap.size + 1 + 1 + 1 ≤ w2.heap.size := by omega)
  (try have hL2_w : w.heap.size ≤ w2.heap.size + 1 := by omega)
  (try have hM2_1 : w.heap.size < w2.heap.size + 1 := by omega)
  (try have hM2_2 : w.heap.size < w2.heap.size + 1 + 1 := by omega)
  (try have hM2_3 : w.heap.size < w2.heap.size + 1 + 1 + 1 := by omega)
  (try have hN2_1_00 : w1.heap.size < w2.heap.size := by omega)
  (try have hN2_1_01 : w1.heap.size < w2.heap.size + 1 := by omega)
  (try have hN2_1_02 : w1.heap.size < w2.heap.size + 1 + 1 := by omega)
  (try have hN2_1_10 : w1.heap.size + 1 < w2.heap.size := by omega)
  (try have hN2_1_11 : w1.heap.size + 1 < w2.heap.size + 1 := by omega)
  (try have hN2_1_12 : w1.heap.size + 1 < w2.heap.size + 1 + 1 := by omega)
  (try have hN2_1_20 : w1.heap.size + 1 + 1 < w2.heap.size := by omega)
  (try have hN2_1_21 : w1.heap.size + 1 + 1 < w2.heap.size + 1 := by omega)
  (try have hN2_1_22 : w1.heap.size + 1 + 1 < w2.heap.size + 1 + 1 := by omega)
  (try have hL2_1 : w1.heap.size ≤ w2.heap.size := by omega)
  (try have hS2_1 : w1.heap.size < w2.heap.size := by omega)
  (try have hS2_1' : w1.heap.size + 1 < w2.heap.size := by omega)
  go_wp2_with fail
  refine bodyPost_ret (v := .tuple #[.int .i64 (valW a b c x y), .bool true]) (by go_light; simp [results, Tryd.results23, go_sem, *]) rfl ⟨rfl, ?_⟩
  repeat (first | with_reducible exact Below.refl _ _ | with_reducible assumption | ((with_reducible refine blA ?_ ?_); (focus (first | omega | (simp <;> omega)))) | (with_reducible refine blD ?_) | (with_reducible refine blN ?_) | ((with_reducible refine blS ?_ ?_); (focus (first | omega | (simp <;> omega)))) | ((with_reducible refine blT (by assumption) ?_ ?_); (focus (first | omega | (simp <;> omega)))))
def plB (a b c x y u v : Int) : Bool := formB a b c && mB x y u v
def plV (a b c x y u v : Int) : Int := if plB a b c x y u v = true then polW a b c x y u v else 0
set_option maxHeartbeats 2000000 in
theorem PolarAt_any (a b c x y u v : Int) (w : World) : Calls Tryd.prog 20 #[.agg #[.int .i64 a, .int .i64 b, .int .i64 c], .int .i64 x, .int .i64 y, .int .i64 u, .int .i64 v] w fun en w' => en = .returned (.tuple #[.int .i64 (plV a b c x y u v), .bool (plB a b c x y u v)]) ∧ Below w.heap.size w w' := by
  by_cases hf : formB a b c = true
  · by_cases hm : mB x y u v = true
    · have hb : plB a b c x y u v = true := by simp [plB, hf, hm]
      have hv : plV a b c x y u v = polW a b c x y u v := if_pos hb
      rw [hb, hv]
      clear hb hv
      go_enter Tryd.func20, Tryd.ntmps20
      go_wp2_with fail
      refine (IsForm_any _ _ _ _).mono ?_
      rintro e1 w1 ⟨rfl, hB1⟩
      obtain ⟨hC1, hF1⟩ := bcell hB1
      have hS1 := hB1.size
      (try simp at hS1)
      (try have hS1_w0 : w.heap.size < w1.heap.size := by omega)
      (try have hS1_w1 : w.heap.size + 1 < w1.heap.size := by omega)
      (try have hS1_w2 : w.heap.size + 1 + 1 < w1.heap.size := by omega)
      (try have hS1_w3 : w.heap.size + 1 + 1 + 1 < w1.heap.size := by omega)
      (try have hS1_w4 : w.heap.size + 1 + 1 + 1 + 1 < w1.heap.size := by omega)
      (try have hL1_w0 : w.heap.size ≤ w1.heap.size := by omega)
      (try have hL1_w1 : w.heap.size + 1 ≤ w1.heap.size := by omega)
      (try have hL1_w2 : w.heap.size + 1 + 1 ≤ w1.heap.size := by omega)
      (try have hL1_w3 : w.heap.size + 1 + 1 + 1 ≤ w1.heap.size := by omega)
      (try have hL1_w : w.heap.size ≤ w1.heap.size + 1 := by omega)
      (try have hM1_1 : w.heap.size < w1.heap.size + 1 := by omega)
      (try have hM1_2 : w.heap.size < w1.heap.size + 1 + 1 := by omega)
      (try have hM1_3 : w.heap.size < w1.heap.size + 1 + 1 + 1 := by omega)
      go_wp2_with fail
      refine (areN4 x y u v _ _ (by simp) (by simp) (by simp) (by simp)).mono ?_
      rintro e w0 ⟨rfl, rfl⟩
      go_wp2_with fail
      refine (polar_any _ _ _ _ _ _ _ _).mono ?_
      rintro e2 w2 ⟨rfl, hB2⟩
      obtain ⟨hC2, hF2⟩ := bcell hB2
      have hS2 := hB2.size
      (try simp at hS2)
      (try have hS2_w0 : w.heap.size < w2.heap.size := by omega)
      (try have hS2_w1 : w.heap.size + 1 < w2.heap.size := by omega)
      (try have hS2_w2 : w.heap.size + 1 + 1 < w2.heap.size := by omega)
      (try have hS2_w3 : w.heap.size + 1 + 1 + 1 < w2.heap.size := by omega)
      (try have hS2_w4 : w.heap.size + 1 + 1 + 1 + 1 < w2.heap.size := by omega)
      (try have hL2_w0 : w.heap.size ≤ w2.heap.size := by omega)
      (try have hL2_w1 : w.heap.size + 1 ≤ w2.heap.size := by omega)
      (try have hL2_w2 : w.heap.size + 1 + 1 ≤ w2.heap.size := by omega)
      (try have hL2_w3 : w.heap.size + 1 + 1 + 1 ≤ w2.heap.size := by omega)
      (try have hL2_w : w.heap.size ≤ w2.heap.size + 1 := by omega)
      (try have hM2_1 : w.heap.size < w2.heap.size + 1 := by omega)
      (try have hM2_2 : w.heap.size < w2.heap.size + 1 + 1 := by omega)
      (try have hM2_3 : w.heap.size < w2.heap.size + 1 + 1 + 1 := by omega)
      (try have hN2_1_00 : w1.heap.size < w2.heap.size := by omega)
      (try have hN2_1_01 : w1.heap.size < w2.heap.size + 1 := by omega)
      (try have hN2_1_02 : w1.heap.size < w2.heap.size + 1 + 1 := by omega)
      (try have hN2_1_10 : w1.heap.size + 1 < w2.heap.size := by omega)
      (try have hN2_1_11 : w1.heap.size + 1 < w2.heap.size + 1 := by omega)
      (try have hN2_1_12 : w1.heap.size + 1 < w2.heap.size + 1 + 1 := by omega)
      (try have hN2_1_20 : w1.heap.size + 1 + 1 < w2.heap.size := by omega)
      (try have hN2_1_21 : w1.heap.size + 1 + 1 < w2.heap.size + 1 := by omega)
      (try have hN2_1_22 : w1.heap.size + 1 + 1 < w2.heap.size + 1 + 1 := by omega)
      (try have hL2_1 : w1.heap.size ≤ w2.heap.size := by omega)
      (try have hS2_1 : w1.heap.size < w2.heap.size := by omega)
      (try have hS2_1' : w1.heap.size + 1 < w2.heap.size := by omega)
      go_wp2_with fail
      refine bodyPost_ret (v := .tuple #[.int .i64 (polW a b c x y u v), .bool true]) (by go_light; simp [results, Tryd.results20, go_sem, *]) rfl ⟨rfl, ?_⟩
      repeat (first | with_reducible exact Below.refl _ _ | with_reducible assumption | ((with_reducible refine blA ?_ ?_); (focus (first | omega | (simp <;> omega)))) | (with_reducible refine blD ?_) | (with_reducible refine blN ?_) | ((with_reducible refine blS ?_ ?_); (focus (first | omega | (simp <;> omega)))) | ((with_reducible refine blT (by assumption) ?_ ?_); (focus (first | omega | (simp <;> omega)))))
    · have hm' : mB x y u v = false := by simpa using hm
      have hb : plB a b c x y u v = false := by simp [plB, hm']
      have hv : plV a b c x y u v = 0 := if_neg (by simp [hb])
      rw [hb, hv]
      clear hb hv hm
      go_enter Tryd.func20, Tryd.ntmps20
      go_wp2_with fail
      refine (IsForm_any _ _ _ _).mono ?_
      rintro e3 w3 ⟨rfl, hB3⟩
      obtain ⟨hC3, hF3⟩ := bcell hB3
      have hS3 := hB3.size
      (try simp at hS3)
      (try have hS3_w0 : w.heap.size < w3.heap.size := by omega)
      (try have hS3_w1 : w.heap.size + 1 < w3.heap.size := by omega)
      (try have hS3_w2 : w.heap.size + 1 + 1 < w3.heap.size := by omega)
      (try have hS3_w3 : w.heap.size + 1 + 1 + 1 < w3.heap.size := by omega)
      (try have hS3_w4 : w.heap.size + 1 + 1 + 1 + 1 < w3.heap.size := by omega)
      (try have hL3_w0 : w.heap.size ≤ w3.heap.size := by omega)
      (try have hL3_w1 : w.heap.size + 1 ≤ w3.heap.size := by omega)
      (try have hL3_w2 : w.heap.size + 1 + 1 ≤ w3.heap.size := by omega)
      (try have hL3_w3 : w.heap.size + 1 + 1 + 1 ≤ w3.heap.size := by omega)
      (try have hL3_w : w.heap.size ≤ w3.heap.size + 1 := by omega)
      (try have hM3_1 : w.heap.size < w3.heap.size + 1 := by omega)
      (try have hM3_2 : w.heap.size < w3.heap.size + 1 + 1 := by omega)
      (try have hM3_3 : w.heap.size < w3.heap.size + 1 + 1 + 1 := by omega)
      (try have hN3_1_00 : w1.heap.size < w3.heap.size := by omega)
      (try have hN3_1_01 : w1.heap.size < w3.heap.size + 1 := by omega)
      (try have hN3_1_02 : w1.heap.size < w3.heap.size + 1 + 1 := by omega)
      (try have hN3_1_10 : w1.heap.size + 1 < w3.heap.size := by omega)
      (try have hN3_1_11 : w1.heap.size + 1 < w3.heap.size + 1 := by omega)
      (try have hN3_1_12 : w1.heap.size + 1 < w3.heap.size + 1 + 1 := by omega)
      (try have hN3_1_20 : w1.heap.size + 1 + 1 < w3.heap.size := by omega)
      (try have hN3_1_21 : w1.heap.size + 1 + 1 < w3.heap.size + 1 := by omega)
      (try have hN3_1_22 : w1.heap.size + 1 + 1 < w3.heap.size + 1 + 1 := by omega)
      (try have hN3_2_00 : w2.heap.size < w3.heap.size := by omega)
      (try have hN3_2_01 : w2.heap.size < w3.heap.size + 1 := by omega)
      (try have hN3_2_02 : w2.heap.size < w3.heap.size + 1 + 1 := by omega)
      (try have hN3_2_10 : w2.heap.size + 1 < w3.heap.size := by omega)
      (try have hN3_2_11 : w2.heap.size + 1 < w3.heap.size + 1 := by omega)
      (try have hN3_2_12 : w2.heap.size + 1 < w3.heap.size + 1 + 1 := by omega)
      (try have hN3_2_20 : w2.heap.size + 1 + 1 < w3.heap.size := by omega)
      (try have hN3_2_21 : w2.heap.size + 1 + 1 < w3.heap.size + 1 := by omega)
      (try have hN3_2_22 : w2.heap.size + 1 + 1 < w3.heap.size + 1 + 1 := by omega)
      (try have hL3_1 : w1.heap.size ≤ w3.heap.size := by omega)
      (try have hL3_2 : w2.heap.size ≤ w3.heap.size := by omega)
      (try have hS3_1 : w1.heap.size < w3.heap.size := by omega)
      (try have hS3_1' : w1.heap.size + 1 < w3.heap.size := by omega)
      (try have hS3_2 : w2.heap.size < w3.heap.size := by omega)
      (try have hS3_2' : w2.heap.size + 1 < w3.heap.size := by omega)
      go_wp2_with fail
      refine (areN4 x y u v _ _ (by simp) (by simp) (by simp) (by simp)).mono ?_
      rintro e w0 ⟨rfl, rfl⟩
      go_wp2_with fail
      refine bodyPost_ret (v := .tuple #[.int .i64 0, .bool false]) (by go_light; simp [results, Tryd.results20, go_sem, *]) rfl ⟨rfl, ?_⟩
      repeat (first | with_reducible exact Below.refl _ _ | with_reducible assumption | ((with_reducible refine blA ?_ ?_); (focus (first | omega | (simp <;> omega)))) | (with_reducible refine blD ?_) | (with_reducible refine blN ?_) | ((with_reducible refine blS ?_ ?_); (focus (first | omega | (simp <;> omega)))) | ((with_reducible refine blT (by assumption) ?_ ?_); (focus (first | omega | (simp <;> omega)))))
  · have hf' : formB a b c = false := by simpa using hf
    have hb : plB a b c x y u v = false := by simp [plB, hf']
    have hv : plV a b c x y u v = 0 := if_neg (by simp [hb])
    rw [hb, hv]
    clear hb hv hf
    go_enter Tryd.func20, Tryd.ntmps20
    go_wp2_with fail
    refine (IsForm_any _ _ _ _).mono ?_
    rintro e4 w4 ⟨rfl, hB4⟩
    obtain ⟨hC4, hF4⟩ := bcell hB4
    have hS4 := hB4.size
    (try simp at hS4)
    (try have hS4_w0 : w.heap.size < w4.heap.size := by omega)
    (try have hS4_w1 : w.heap.size + 1 < w4.heap.size := by omega)
    (try have hS4_w2 : w.heap.size + 1 + 1 < w4.heap.size := by omega)
    (try have hS4_w3 : w.heap.size + 1 + 1 + 1 < w4.heap.size := by omega)
    (try have hS4_w4 : w.heap.size + 1 + 1 + 1 + 1 < w4.heap.size := by omega)
    (try have hL4_w0 : w.heap.size ≤ w4.heap.size := by omega)
    (try have hL4_w1 : w.heap.size + 1 ≤ w4.heap.size := by omega)
    (try have hL4_w2 : w.heap.size + 1 + 1 ≤ w4.heap.size := by omega)
    (try have hL4_w3 : w.heap.size + 1 + 1 + 1 ≤ w4.heap.size := by omega)
    (try have hL4_w : w.heap.size ≤ w4.heap.size + 1 := by omega)
    (try have hM4_1 : w.heap.size < w4.heap.size + 1 := by omega)
    (try have hM4_2 : w.heap.size < w4.heap.size + 1 + 1 := by omega)
    (try have hM4_3 : w.heap.size < w4.heap.size + 1 + 1 + 1 := by omega)
    (try have hN4_1_00 : w1.heap.size < w4.heap.size := by omega)
    (try have hN4_1_01 : w1.heap.size < w4.heap.size + 1 := by omega)
    (try have hN4_1_02 : w1.heap.size < w4.heap.size + 1 + 1 := by omega)
    (try have hN4_1_10 : w1.heap.size + 1 < w4.heap.size := by omega)
    (try have hN4_1_11 : w1.heap.size + 1 < w4.heap.size + 1 := by omega)
    (try have hN4_1_12 : w1.heap.size + 1 < w4.heap.size + 1 + 1 := by omega)
    (try have hN4_1_20 : w1.heap.size + 1 + 1 < w4.heap.size := by omega)
    (try have hN4_1_21 : w1.heap.size + 1 + 1 < w4.heap.size + 1 := by omega)
    (try have hN4_1_22 : w1.heap.size + 1 + 1 < w4.heap.size + 1 + 1 := by omega)
    (try have hN4_2_00 : w2.heap.size < w4.heap.size := by omega)
    (try have hN4_2_01 : w2.heap.size < w4.heap.size + 1 := by omega)
    (try have hN4_2_02 : w2.heap.size < w4.heap.size + 1 + 1 := by omega)
    (try have hN4_2_10 : w2.heap.size + 1 < w4.heap.size := by omega)
    (try have hN4_2_11 : w2.heap.size + 1 < w4.heap.size + 1 := by omega)
    (try have hN4_2_12 : w2.heap.size + 1 < w4.heap.size + 1 + 1 := by omega)
    (try have hN4_2_20 : w2.heap.size + 1 + 1 < w4.heap.size := by omega)
    (try have hN4_2_21 : w2.heap.size + 1 + 1 < w4.heap.size + 1 := by omega)
    (try have hN4_2_22 : w2.heap.size + 1 + 1 < w4.heap.size + 1 + 1 := by omega)
    (try have hN4_3_00 : w3.heap.size < w4.heap.size := by omega)
    (try have hN4_3_01 : w3.heap.size < w4.heap.size + 1 := by omega)
    (try have hN4_3_02 : w3.heap.size < w4.heap.size + 1 + 1 := by omega)
    (try have hN4_3_10 : w3.heap.size + 1 < w4.heap.size := by omega)
    (try have hN4_3_11 : w3.heap.size + 1 < w4.heap.size + 1 := by omega)
    (try have hN4_3_12 : w3.heap.size + 1 < w4.heap.size + 1 + 1 := by omega)
    (try have hN4_3_20 : w3.heap.size + 1 + 1 < w4.heap.size := by omega)
    (try have hN4_3_21 : w3.heap.size + 1 + 1 < w4.heap.size + 1 := by omega)
    (try have hN4_3_22 : w3.heap.size + 1 + 1 < w4.heap.size + 1 + 1 := by omega)
    (try have hL4_1 : w1.heap.size ≤ w4.heap.size := by omega)
    (try have hL4_2 : w2.heap.size ≤ w4.heap.size := by omega)
    (try have hL4_3 : w3.heap.size ≤ w4.heap.size := by omega)
    (try have hS4_1 : w1.heap.size < w4.heap.size := by omega)
    (try have hS4_1' : w1.heap.size + 1 < w4.heap.size := by omega)
    (try have hS4_2 : w2.heap.size < w4.heap.size := by omega)
    (try have hS4_2' : w2.heap.size + 1 < w4.heap.size := by omega)
    (try have hS4_3 : w3.heap.size < w4.heap.size := by omega)
    (try have hS4_3' : w3.heap.size + 1 < w4.heap.size := by omega)
    go_wp2_with fail
    refine bodyPost_ret (v := .tuple #[.int .i64 0, .bool false]) (by go_light; simp [results, Tryd.results20, go_sem, *]) rfl ⟨rfl, ?_⟩
    repeat (first | with_reducible exact Below.refl _ _ | with_reducible assumption | ((with_reducible refine blA ?_ ?_); (focus (first | omega | (simp <;> omega)))) | (with_reducible refine blD ?_) | (with_reducible refine blN ?_) | ((with_reducible refine blS ?_ ?_); (focus (first | omega | (simp <;> omega)))) | ((with_reducible refine blT (by assumption) ?_ ?_); (focus (first | omega | (simp <;> omega)))))
set_option maxHeartbeats 4000000 in
theorem sPolarAt_any (a b c x y u v : Int) (w : World) : Calls Tryd.prog 21 #[.agg #[.int .i64 a, .int .i64 b, .int .i64 c], .int .i64 x, .int .i64 y, .int .i64 u, .int .i64 v] w fun en w' => en = .returned (.tuple #[.int .i64 (plV a b c x y u v), .bool (plB a b c x y u v)]) ∧ Below w.heap.size w w' := by
  by_cases hb : plB a b c x y u v = true
  · have hv : plV a b c x y u v = polW a b c x y u v := if_pos hb
    obtain ⟨hf, ⟨⟨h1, h2⟩, h3⟩, h4⟩ : formB a b c = true ∧ ((numB x = true ∧ numB y = true) ∧ numB u = true) ∧ numB v = true := by simpa [plB, mB] using hb
    rw [hb, hv]
    clear hb hv
    go_enter Tryd.func21, Tryd.ntmps21
    go_wp2_with fail
    refine (foGood_any _ _ _ _).mono ?_
    rintro e1 w1 ⟨rfl, hB1⟩
    obtain ⟨hC1, hF1⟩ := bcell hB1
    have hS1 := hB1.size
    (try simp at hS1)
    (try have hS1_w0 : w.heap.size < w1.heap.size := by omega)
    (try have hS1_w1 : w.heap.size + 1 < w1.heap.size := by omega)
    (try have hS1_w2 : w.heap.size + 1 + 1 < w1.heap.size := by omega)
    (try have hS1_w3 : w.heap.size + 1 + 1 + 1 < w1.heap.size := by omega)
    (try have hS1_w4 : w.heap.size + 1 + 1 + 1 + 1 < w1.heap.size := by omega)
    (try have hL1_w0 : w.heap.size ≤ w1.heap.size := by omega)
    (try have hL1_w1 : w.heap.size + 1 ≤ w1.heap.size := by omega)
    (try have hL1_w2 : w.heap.size + 1 + 1 ≤ w1.heap.size := by omega)
    (try have hL1_w3 : w.heap.size + 1 + 1 + 1 ≤ w1.heap.size := by omega)
    (try have hL1_w : w.heap.size ≤ w1.heap.size + 1 := by omega)
    (try have hM1_1 : w.heap.size < w1.heap.size + 1 := by omega)
    (try have hM1_2 : w.heap.size < w1.heap.size + 1 + 1 := by omega)
    (try have hM1_3 : w.heap.size < w1.heap.size + 1 + 1 + 1 := by omega)
    go_wp2_with (go_at_call 52; refine (nuGood_any _ _).mono ?_; rintro e w' ⟨rfl, rfl⟩)
    refine (foPolar_any _ _ _ _ _ _ _ _).mono ?_
    rintro e2 w2 ⟨rfl, hB2⟩
    obtain ⟨hC2, hF2⟩ := bcell hB2
    have hS2 := hB2.size
    (try simp at hS2)
    (try have hS2_w0 : w.heap.size < w2.heap.size := by omega)
    (try have hS2_w1 : w.heap.size + 1 < w2.heap.size := by omega)
    (try have hS2_w2 : w.heap.size + 1 + 1 < w2.heap.size := by omega)
    (try have hS2_w3 : w.heap.size + 1 + 1 + 1 < w2.heap.size := by omega)
    (try have hS2_w4 : w.heap.size + 1 + 1 + 1 + 1 < w2.heap.size := by omega)
    (try have hL2_w0 : w.heap.size ≤ w2.heap.size := by omega)
    (try have hL2_w1 : w.heap.size + 1 ≤ w2.heap.size := by omega)
    (try have hL2_w2 : w.heap.size + 1 + 1 ≤ w2.heap.size := by omega)
    (try have hL2_w3 : w.heap.size + 1 + 1 + 1 ≤ w2.heap.size := by omega)
    (try have hL2_w : w.heap.size ≤ w2.heap.size + 1 := by omega)
    (try have hM2_1 : w.heap.size < w2.heap.size + 1 := by omega)
    (try have hM2_2 : w.heap.size < w2.heap.size + 1 + 1 := by omega)
    (try have hM2_3 : w.heap.size < w2.heap.size + 1 + 1 + 1 := by omega)
    (try have hN2_1_00 : w1.heap.size < w2.heap.size := by omega)
    (try have hN2_1_01 : w1.heap.size < w2.heap.size + 1 := by omega)
    (try have hN2_1_02 : w1.heap.size < w2.heap.size + 1 + 1 := by omega)
    (try have hN2_1_10 : w1.heap.size + 1 < w2.heap.size := by omega)
    (try have hN2_1_11 : w1.heap.size + 1 < w2.heap.size + 1 := by omega)
    (try have hN2_1_12 : w1.heap.size + 1 < w2.heap.size + 1 + 1 := by omega)
    (try have hN2_1_20 : w1.heap.size + 1 + 1 < w2.heap.size := by omega)
    (try have hN2_1_21 : w1.heap.size + 1 + 1 < w2.heap.size + 1 := by omega)
    (try have hN2_1_22 : w1.heap.size + 1 + 1 < w2.heap.size + 1 + 1 := by omega)
    (try have hL2_1 : w1.heap.size ≤ w2.heap.size := by omega)
    (try have hS2_1 : w1.heap.size < w2.heap.size := by omega)
    (try have hS2_1' : w1.heap.size + 1 < w2.heap.size := by omega)
    go_wp2_with fail
    refine bodyPost_ret (v := .tuple #[.int .i64 (polW a b c x y u v), .bool true]) (by go_light; simp [results, Tryd.results21, go_sem, *]) rfl ⟨rfl, ?_⟩
    repeat (first | with_reducible exact Below.refl _ _ | with_reducible assumption | ((with_reducible refine blA ?_ ?_); (focus (first | omega | (simp <;> omega)))) | (with_reducible refine blD ?_) | (with_reducible refine blN ?_) | ((with_reducible refine blS ?_ ?_); (focus (first | omega | (simp <;> omega)))) | ((with_reducible refine blT (by assumption) ?_ ?_); (focus (first | omega | (simp <;> omega)))))
  · have hb' : plB a b c x y u v = false := by simpa using hb
    have hv : plV a b c x y u v = 0 := if_neg hb
    have HN : Hid (formB a b c = true → numB x = true → numB y = true → numB u = true → numB v = true → False) := fun h0 h1 h2 h3 h4 => hb (by simp [plB, mB, h0, h1, h2, h3, h4])
    rw [hb', hv]
    clear hb hb' hv
    go_enter Tryd.func21, Tryd.ntmps21
    go_wp2_with fail
    refine (foGood_any _ _ _ _).mono ?_
    rintro e3 w3 ⟨rfl, hB3⟩
    obtain ⟨hC3, hF3⟩ := bcell hB3
    have hS3 := hB3.size
    (try simp at hS3)
    (try have hS3_w0 : w.heap.size < w3.heap.size := by omega)
    (try have hS3_w1 : w.heap.size + 1 < w3.heap.size := by omega)
    (try have hS3_w2 : w.heap.size + 1 + 1 < w3.heap.size := by omega)
    (try have hS3_w3 : w.heap.size + 1 + 1 + 1 < w3.heap.size := by omega)
    (try have hS3_w4 : w.heap.size + 1 + 1 + 1 + 1 < w3.heap.size := by omega)
    (try have hL3_w0 : w.heap.size ≤ w3.heap.size := by omega)
    (try have hL3_w1 : w.heap.size + 1 ≤ w3.heap.size := by omega)
    (try have hL3_w2 : w.heap.size + 1 + 1 ≤ w3.heap.size := by omega)
    (try have hL3_w3 : w.heap.size + 1 + 1 + 1 ≤ w3.heap.size := by omega)
    (try have hL3_w : w.heap.size ≤ w3.heap.size + 1 := by omega)
    (try have hM3_1 : w.heap.size < w3.heap.size + 1 := by omega)
    (try have hM3_2 : w.heap.size < w3.heap.size + 1 + 1 := by omega)
    (try have hM3_3 : w.heap.size < w3.heap.size + 1 + 1 + 1 := by omega)
    (try have hN3_1_00 : w1.heap.size < w3.heap.size := by omega)
    (try have hN3_1_01 : w1.heap.size < w3.heap.size + 1 := by omega)
    (try have hN3_1_02 : w1.heap.size < w3.heap.size + 1 + 1 := by omega)
    (try have hN3_1_10 : w1.heap.size + 1 < w3.heap.size := by omega)
    (try have hN3_1_11 : w1.heap.size + 1 < w3.heap.size + 1 := by omega)
    (try have hN3_1_12 : w1.heap.size + 1 < w3.heap.size + 1 + 1 := by omega)
    (try have hN3_1_20 : w1.heap.size + 1 + 1 < w3.heap.size := by omega)
    (try have hN3_1_21 : w1.heap.size + 1 + 1 < w3.heap.size + 1 := by omega)
    (try have hN3_1_22 : w1.heap.size + 1 + 1 < w3.heap.size + 1 + 1 := by omega)
    (try have hN3_2_00 : w2.heap.size < w3.heap.size := by omega)
    (try have hN3_2_01 : w2.heap.size < w3.heap.size + 1 := by omega)
    (try have hN3_2_02 : w2.heap.size < w3.heap.size + 1 + 1 := by omega)
    (try have hN3_2_10 : w2.heap.size + 1 < w3.heap.size := by omega)
    (try have hN3_2_11 : w2.heap.size + 1 < w3.heap.size + 1 := by omega)
    (try have hN3_2_12 : w2.heap.size + 1 < w3.heap.size + 1 + 1 := by omega)
    (try have hN3_2_20 : w2.heap.size + 1 + 1 < w3.heap.size := by omega)
    (try have hN3_2_21 : w2.heap.size + 1 + 1 < w3.heap.size + 1 := by omega)
    (try have hN3_2_22 : w2.heap.size + 1 + 1 < w3.heap.size + 1 + 1 := by omega)
    (try have hL3_1 : w1.heap.size ≤ w3.heap.size := by omega)
    (try have hL3_2 : w2.heap.size ≤ w3.heap.size := by omega)
    (try have hS3_1 : w1.heap.size < w3.heap.size := by omega)
    (try have hS3_1' : w1.heap.size + 1 < w3.heap.size := by omega)
    (try have hS3_2 : w2.heap.size < w3.heap.size := by omega)
    (try have hS3_2' : w2.heap.size + 1 < w3.heap.size := by omega)
    go_wp2_with (go_at_call 52; refine (nuGood_any _ _).mono ?_; rintro e w' ⟨rfl, rfl⟩)
    all_goals first
      | (exfalso; exact HN.out (by assumption) (by assumption) (by assumption) (by assumption) (by first | assumption | simpa using ‹(!numB v) = false›))
      | (refine bodyPost_ret (v := .tuple #[.int .i64 0, .bool false]) (by go_light; simp [results, Tryd.results21, go_sem]) rfl ⟨rfl, ?_⟩
         repeat (first | with_reducible exact Below.refl _ _ | with_reducible assumption | ((with_reducible refine blA ?_ ?_); (focus (first | omega | (simp <;> omega)))) | (with_reducible refine blD ?_) | (with_reducible refine blN ?_) | ((with_reducible refine blS ?_ ?_); (focus (first | omega | (simp <;> omega)))) | ((with_reducible refine blT (by assumption) ?_ ?_); (focus (first | omega | (simp <;> omega))))))
end Go.Proofs.YtlfbanoabipacaaDoor
