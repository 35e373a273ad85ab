/-
  Matrices: the inverse, the product with it, and the polar form's value at numbers.
-/
import Derived.Test.YtlfbanoabipacaaDoorMix
import Derived.Test.YtlfbanoabipacaaDoorEnd
import Derived.Test.YtlfbanoabipacaaDoorForm
namespace Go.Proofs.YtlfbanoabipacaaDoor
open Go.RowKit
attribute [local simp, local go_sem] past_cell past_frozen past_tape
def mB (p q r s : Int) : Bool := numB p && numB q && numB r && numB s
def dW (p q r s : Int) : Int := wrap64 (wrap64 (p * s) - wrap64 (q * r))
theorem mB_bd {p q r s : Int} (h : mB p q r s = true) : Bd 1000000 p ∧ Bd 1000000 q ∧ Bd 1000000 r ∧ Bd 1000000 s := by
  simp only [mB, Bool.and_eq_true] at h
  exact ⟨numB_bd h.1.1.1, numB_bd h.1.1.2, numB_bd h.1.2, numB_bd h.2⟩
theorem dW_eq {p q r s : Int} (h : mB p q r s = true) : dW p q r s = p * s - q * r := by
  obtain ⟨hp, hq, hr, hs⟩ := mB_bd h
  have h1 := mul_bd hp hs (show (1000000 : Int) * 1000000 ≤ 1000000000000 by decide)
  have h2 := mul_bd hq hr (show (1000000 : Int) * 1000000 ≤ 1000000000000 by decide)
  obtain ⟨b1, b2⟩ := h1
  obtain ⟨c1, c2⟩ := h2
  unfold dW
  rw [IntWalk.wrap64_in (p * s) ⟨by omega, by omega⟩, IntWalk.wrap64_in (q * r) ⟨by omega, by omega⟩, IntWalk.wrap64_in _ ⟨by omega, by omega⟩]
theorem dW_I (p q r s : Int) : I64 (dW p q r s) := by unfold dW wrap64 I64; omega
def iP (p q r s : Int) : Int := wrap64 (dW p q r s * s)
def iQ (p q r s : Int) : Int := wrap64 (wrap64 (-dW p q r s) * q)
def iR (p q r s : Int) : Int := wrap64 (wrap64 (-dW p q r s) * r)
def iS (p q r s : Int) : Int := wrap64 (dW p q r s * p)
theorem mdet_any (p q r s : Int) (w : World) :
    Calls Tryd.prog 37 #[.agg #[.int .i64 p, .int .i64 q, .int .i64 r, .int .i64 s]] w fun en w' => en = .returned (.int .i64 (dW p q r s)) ∧ Below w.heap.size w w' := by
  go_enter Tryd.func37, Tryd.ntmps37
  go_wp2
  go_ret
  refine ⟨rfl, ?_⟩
  repeat (first | with_reducible exact Below.refl _ _ | with_reducible assumption | ((with_reducible refine blA ?_ ?_); (focus (first | omega | (simp <;> omega)))) | (with_reducible refine blD ?_) | (with_reducible refine blN ?_) | ((with_reducible refine blS ?_ ?_); (focus (first | omega | (simp <;> omega)))) | ((with_reducible refine blT (by assumption) ?_ ?_); (focus (first | omega | (simp <;> omega)))))
theorem sdet_any (p q r s : Int) (w : World) :
    Calls Tryd.prog 41 #[.agg #[.int .i64 p, .int .i64 q, .int .i64 r, .int .i64 s]] w fun en w' => en = .returned (.int .i64 (dW p q r s)) ∧ Below w.heap.size w w' := by
  go_enter Tryd.func41, Tryd.ntmps41
  go_wp2
  go_ret
  refine ⟨rfl, ?_⟩
  repeat (first | with_reducible exact Below.refl _ _ | with_reducible assumption | ((with_reducible refine blA ?_ ?_); (focus (first | omega | (simp <;> omega)))) | (with_reducible refine blD ?_) | (with_reducible refine blN ?_) | ((with_reducible refine blS ?_ ?_); (focus (first | omega | (simp <;> omega)))) | ((with_reducible refine blT (by assumption) ?_ ?_); (focus (first | omega | (simp <;> omega)))))
theorem iMatrix_any (p q r s : Int) (w : World) :
    Calls Tryd.prog 35 #[.agg #[.int .i64 p, .int .i64 q, .int .i64 r, .int .i64 s]] w fun en w' => en = .returned (.bool (mB p q r s)) ∧ Below w.heap.size w w' := by
  go_enter Tryd.func35, Tryd.ntmps35
  go_wp2_with (go_at_call 49; refine (areNumbers_any [p, q, r, s] _ _ (by simp) ?hc).mono ?_)
  case hc => intro i hi; match i, hi with | 0, _ => simp [go_sem] | 1, _ => simp [go_sem] | 2, _ => simp [go_sem] | 3, _ => simp [go_sem]
  rintro e w' ⟨rfl, rfl⟩
  go_wp2
  go_ret
  refine ⟨ret_bool (by simp [mB, Bool.and_assoc]), ?_⟩
  repeat (first | with_reducible exact Below.refl _ _ | with_reducible assumption | ((with_reducible refine blA ?_ ?_); (focus (first | omega | (simp <;> omega)))) | (with_reducible refine blD ?_) | (with_reducible refine blN ?_) | ((with_reducible refine blS ?_ ?_); (focus (first | omega | (simp <;> omega)))) | ((with_reducible refine blT (by assumption) ?_ ?_); (focus (first | omega | (simp <;> omega)))))
theorem sMatrix_any (p q r s : Int) (w : World) :
    Calls Tryd.prog 39 #[.agg #[.int .i64 p, .int .i64 q, .int .i64 r, .int .i64 s]] w fun en w' => en = .returned (.bool (mB p q r s)) ∧ Below w.heap.size w w' := by
  go_enter Tryd.func39, Tryd.ntmps39
  go_wp2_with (go_at_call 52; refine (nuGood_any _ _).mono ?_; rintro e w' ⟨rfl, rfl⟩)
  all_goals
    go_ret
    refine ⟨ret_bool ?_, ?_⟩
    · go_light; simp [mB, *]
    · repeat (first | with_reducible exact Below.refl _ _ | with_reducible assumption | ((with_reducible refine blA ?_ ?_); (focus (first | omega | (simp <;> omega)))) | (with_reducible refine blD ?_) | (with_reducible refine blN ?_) | ((with_reducible refine blS ?_ ?_); (focus (first | omega | (simp <;> omega)))) | ((with_reducible refine blT (by assumption) ?_ ?_); (focus (first | omega | (simp <;> omega)))))
theorem minv_any (p q r s : Int) (w : World) :
    Calls Tryd.prog 38 #[.agg #[.int .i64 p, .int .i64 q, .int .i64 r, .int .i64 s]] w fun en w' => en = .returned (.agg #[.int .i64 (iP p q r s), .int .i64 (iQ p q r s), .int .i64 (iR p q r s), .int .i64 (iS p q r s)]) ∧ Below w.heap.size w w' := by
  go_enter Tryd.func38, Tryd.ntmps38
  go_wp2_with fail
  refine (mdet_any _ _ _ _ _).mono ?_
  rintro e1 w1 ⟨rfl, hB1⟩
  obtain ⟨hC1, hF1⟩ := bcell hB1
  have hS1 := hB1.size
  (try simp at hS1)
  (try have hS1_w0 : w.heap.size < w1.heap.size := by omega)
  (try have hS1_w1 : w.heap.size + 1 < w1.heap.size := by omega)
  (try have hS1_w2 : w.heap.size + 1 + 1 < w1.heap.size := by omega)
  (try have hS1_w3 : w.heap.size + 1 + 1 + 1 < w1.heap.size := by omega)
  (try have hS1_w4 : w.heap.size + 1 + 1 + 1 + 1 < w1.heap.size := by omega)
  (try have hL1_w0 : w.heap.size ≤ w1.heap.size := by omega)
  (try have hL1_w1 : w.heap.size + 1 ≤ w1.heap.size := by omega)
  (try have hL1_w2 : w.heap.size + 1 + 1 ≤ w1.heap.size := by omega)
  (try have hL1_w3 : w.heap.size + 1 + 1 + 1 ≤ w1.heap.size := by omega)
  (try have hL1_w : w.heap.size ≤ w1.heap.size + 1 := by omega)
  (try have hM1_1 : w.heap.size < w1.heap.size + 1 := by omega)
  (try have hM1_2 : w.heap.size < w1.heap.size + 1 + 1 := by omega)
  (try have hM1_3 : w.heap.size < w1.heap.size + 1 + 1 + 1 := by omega)
  go_wp2_with fail
  refine bodyPost_ret (v := .agg #[.int .i64 (iP p q r s), .int .i64 (iQ p q r s), .int .i64 (iR p q r s), .int .i64 (iS p q r s)]) (by go_light; simp [results, Tryd.results38, go_sem, *, iP, iQ, iR, iS]) rfl ⟨rfl, ?_⟩
  repeat (first | with_reducible exact Below.refl _ _ | with_reducible assumption | ((with_reducible refine blA ?_ ?_); (focus (first | omega | (simp <;> omega)))) | (with_reducible refine blD ?_) | (with_reducible refine blN ?_) | ((with_reducible refine blS ?_ ?_); (focus (first | omega | (simp <;> omega)))) | ((with_reducible refine blT (by assumption) ?_ ?_); (focus (first | omega | (simp <;> omega)))))
theorem sinv_any (p q r s : Int) (w : World) :
    Calls Tryd.prog 42 #[.agg #[.int .i64 p, .int .i64 q, .int .i64 r, .int .i64 s]] w fun en w' => en = .returned (.agg #[.int .i64 (iP p q r s), .int .i64 (iQ p q r s), .int .i64 (iR p q r s), .int .i64 (iS p q r s)]) ∧ Below w.heap.size w w' := by
  go_enter Tryd.func42, Tryd.ntmps42
  go_wp2_with fail
  refine (sdet_any _ _ _ _ _).mono ?_
  rintro e1 w1 ⟨rfl, hB1⟩
  obtain ⟨hC1, hF1⟩ := bcell hB1
  have hS1 := hB1.size
  (try simp at hS1)
  (try have hS1_w0 : w.heap.size < w1.heap.size := by omega)
  (try have hS1_w1 : w.heap.size + 1 < w1.heap.size := by omega)
  (try have hS1_w2 : w.heap.size + 1 + 1 < w1.heap.size := by omega)
  (try have hS1_w3 : w.heap.size + 1 + 1 + 1 < w1.heap.size := by omega)
  (try have hS1_w4 : w.heap.size + 1 + 1 + 1 + 1 < w1.heap.size := by omega)
  (try have hL1_w0 : w.heap.size ≤ w1.heap.size := by omega)
  (try have hL1_w1 : w.heap.size + 1 ≤ w1.heap.size := by omega)
  (try have hL1_w2 : w.heap.size + 1 + 1 ≤ w1.heap.size := by omega)
  (try have hL1_w3 : w.heap.size + 1 + 1 + 1 ≤ w1.heap.size := by omega)
  (try have hL1_w : w.heap.size ≤ w1.heap.size + 1 := by omega)
  (try have hM1_1 : w.heap.size < w1.heap.size + 1 := by omega)
  (try have hM1_2 : w.heap.size < w1.heap.size + 1 + 1 := by omega)
  (try have hM1_3 : w.heap.size < w1.heap.size + 1 + 1 + 1 := by omega)
  go_wp2_with fail
  refine bodyPost_ret (v := .agg #[.int .i64 (iP p q r s), .int .i64 (iQ p q r s), .int .i64 (iR p q r s), .int .i64 (iS p q r s)]) (by go_light; simp [results, Tryd.results42, go_sem, *, iP, iQ, iR, iS]) rfl ⟨rfl, ?_⟩
  repeat (first | with_reducible exact Below.refl _ _ | with_reducible assumption | ((with_reducible refine blA ?_ ?_); (focus (first | omega | (simp <;> omega)))) | (with_reducible refine blD ?_) | (with_reducible refine blN ?_) | ((with_reducible refine blS ?_ ?_); (focus (first | omega | (simp <;> omega)))) | ((with_reducible refine blT (by assumption) ?_ ?_); (focus (first | omega | (simp <;> omega)))))
def minB (p q r s : Int) : Bool := mB p q r s && (((dW p q r s).natAbs : Int) == 1)
theorem dW_J {p q r s : Int} (h : mB p q r s = true) : J64 (dW p q r s) := by
  obtain ⟨hp, hq, hr, hs⟩ := mB_bd h
  have h1 := mul_bd hp hs (show (1000000 : Int) * 1000000 ≤ 1000000000000 by decide)
  have h2 := mul_bd hq hr (show (1000000 : Int) * 1000000 ≤ 1000000000000 by decide)
  obtain ⟨b1, b2⟩ := h1
  obtain ⟨c1, c2⟩ := h2
  rw [dW_eq h]
  exact ⟨by omega, by omega⟩
def minV (p q r s : Int) : Value := if minB p q r s = true then .agg #[.int .i64 (iP p q r s), .int .i64 (iQ p q r s), .int .i64 (iR p q r s), .int .i64 (iS p q r s)] else .agg #[.int .i64 0, .int .i64 0, .int .i64 0, .int .i64 0]
set_option maxHeartbeats 2000000 in
theorem MatrixInverse_any (p q r s : Int) (w : World) :
    Calls Tryd.prog 14 #[.agg #[.int .i64 p, .int .i64 q, .int .i64 r, .int .i64 s]] w fun en w' => en = .returned (.tuple #[minV p q r s, .bool (minB p q r s)]) ∧ Below w.heap.size w w' := by
  by_cases h : mB p q r s = true
  · have hJ := dW_J h
    by_cases hd : ((dW p q r s).natAbs : Int) = 1
    · have hb : minB p q r s = true := by simp [minB, h, hd]
      have hv : minV p q r s = .agg #[.int .i64 (iP p q r s), .int .i64 (iQ p q r s), .int .i64 (iR p q r s), .int .i64 (iS p q r s)] := if_pos hb
      rw [hb, hv]
      clear hb hv
      go_enter Tryd.func14, Tryd.ntmps14
      go_wp2_with fail
      refine (iMatrix_any _ _ _ _ _).mono ?_
      rintro e1 w1 ⟨rfl, hB1⟩
      obtain ⟨hC1, hF1⟩ := bcell hB1
      have hS1 := hB1.size
      (try simp at hS1)
      (try have hS1_w0 : w.heap.size < w1.heap.size := by omega)
      (try have hS1_w1 : w.heap.size + 1 < w1.heap.size := by omega)
      (try have hS1_w2 : w.heap.size + 1 + 1 < w1.heap.size := by omega)
      (try have hS1_w3 : w.heap.size + 1 + 1 + 1 < w1.heap.size := by omega)
      (try have hS1_w4 : w.heap.size + 1 + 1 + 1 + 1 < w1.heap.size := by omega)
      (try have hL1_w0 : w.heap.size ≤ w1.heap.size := by omega)
      (try have hL1_w1 : w.heap.size + 1 ≤ w1.heap.size := by omega)
      (try have hL1_w2 : w.heap.size + 1 + 1 ≤ w1.heap.size := by omega)
      (try have hL1_w3 : w.heap.size + 1 + 1 + 1 ≤ w1.heap.size := by omega)
      (try have hL1_w : w.heap.size ≤ w1.heap.size + 1 := by omega)
      (try have hM1_1 : w.heap.size < w1.heap.size + 1 := by omega)
      (try have hM1_2 : w.heap.size < w1.heap.size + 1 + 1 := by omega)
      (try have hM1_3 : w.heap.size < w1.heap.size + 1 + 1 + 1 := by omega)
      go_wp2_with fail
      refine (mdet_any _ _ _ _ _).mono ?_
      rintro e2 w2 ⟨rfl, hB2⟩
      obtain ⟨hC2, hF2⟩ := bcell hB2
      have hS2 := hB2.size
      (try simp at hS2)
      (try have hS2_w0 : w.heap.size < w2.heap.size := by omega)
      (try have hS2_w1 : w.heap.size + 1 < w2.heap.size := by omega)
      (try have hS2_w2 : w.heap.size + 1 + 1 < w2.heap.size := by omega)
      (try have hS2_w3 : w.heap.size + 1 + 1 + 1 < w2.heap.size := by omega)
      (try have hS2_w4 : w.heap.size + 1 + 1 + 1 + 1 < w2.heap.size := by omega)
      (try have hL2_w0 : w.heap.size ≤ w2.heap.size := by omega)
      (try have hL2_w1 : w.heap.size + 1 ≤ w2.heap.size := by omega)
      (try have hL2_w2 : w.heap.size + 1 + 1 ≤ w2.heap.size := by omega)
      (try have hL2_w3 : w.heap.size + 1 + 1 + 1 ≤ w2.heap.size := by omega)
      (try have hL2_w : w.heap.size ≤ w2.heap.size + 1 := by omega)
      (try have hM2_1 : w.heap.size < w2.heap.size + 1 := by omega)
      (try have hM2_2 : w.heap.size < w2.heap.size + 1 + 1 := by omega)
      (try have hM2_3 : w.heap.size < w2.heap.size + 1 + 1 + 1 := by omega)
      (try have hN2_1_00 : w1.heap.size < w2.heap.size := by omega)
      (try have hN2_1_01 : w1.heap.size < w2.heap.size + 1 := by omega)
      (try have hN2_1_02 : w1.heap.size < w2.heap.size + 1 + 1 := by omega)
      (try have hN2_1_10 : w1.heap.size + 1 < w2.heap.size := by omega)
      (try have hN2_1_11 : w1.heap.size + 1 < w2.heap.size + 1 := by omega)
      (try have hN2_1_12 : w1.heap.size + 1 < w2.heap.size + 1 + 1 := by omega)
      (try have hN2_1_20 : w1.heap.size + 1 + 1 < w2.heap.size := by omega)
      (try have hN2_1_21 : w1.heap.size + 1 + 1 < w2.heap.size + 1 := by omega)
      (try have hN2_1_22 : w1.heap.size + 1 + 1 < w2.heap.size + 1 + 1 := by omega)
      (try have hL2_1 : w1.heap.size ≤ w2.heap.size := by omega)
      (try have hS2_1 : w1.heap.size < w2.heap.size := by omega)
      (try have hS2_1' : w1.heap.size + 1 < w2.heap.size := by omega)
      go_wp2_with fail
      refine (abs_nat _ _ hJ).mono ?_
      rintro e0 w0 ⟨rfl, rfl⟩
      go_wp2_with fail
      refine (minv_any _ _ _ _ _).mono ?_
      rintro e3 w3 ⟨rfl, hB3⟩
      obtain ⟨hC3, hF3⟩ := bcell hB3
      have hS3 := hB3.size
      (try simp at hS3)
      (try have hS3_w0 : w.heap.size < w3.heap.size := by omega)
      (try have hS3_w1 : w.heap.size + 1 < w3.heap.size := by omega)
      (try have hS3_w2 : w.heap.size + 1 + 1 < w3.heap.size := by omega)
      (try have hS3_w3 : w.heap.size + 1 + 1 + 1 < w3.heap.size := by omega)
      (try have hS3_w4 : w.heap.size + 1 + 1 + 1 + 1 < w3.heap.size := by omega)
      (try have hL3_w0 : w.heap.size ≤ w3.heap.size := by omega)
      (try have hL3_w1 : w.heap.size + 1 ≤ w3.heap.size := by omega)
      (try have hL3_w2 : w.heap.size + 1 + 1 ≤ w3.heap.size := by omega)
      (try have hL3_w3 : w.heap.size + 1 + 1 + 1 ≤ w3.heap.size := by omega)
      (try have hL3_w : w.heap.size ≤ w3.heap.size + 1 := by omega)
      (try have hM3_1 : w.heap.size < w3.heap.size + 1 := by omega)
      (try have hM3_2 : w.heap.size < w3.heap.size + 1 + 1 := by omega)
      (try have hM3_3 : w.heap.size < w3.heap.size + 1 + 1 + 1 := by omega)
      (try have hN3_1_00 : w1.heap.size < w3.heap.size := by omega)
      (try have hN3_1_01 : w1.heap.size < w3.heap.size + 1 := by omega)
      (try have hN3_1_02 : w1.heap.size < w3.heap.size + 1 + 1 := by omega)
      (try have hN3_1_10 : w1.heap.size + 1 < w3.heap.size := by omega)
      (try have hN3_1_11 : w1.heap.size + 1 < w3.heap.size + 1 := by omega)
      (try have hN3_1_12 : w1.heap.size + 1 < w3.heap.size + 1 + 1 := by omega)
      (try have hN3_1_20 : w1.heap.size + 1 + 1 < w3.heap.size := by omega)
      (try have hN3_1_21 : w1.heap.size + 1 + 1 < w3.heap.size + 1 := by omega)
      (try have hN3_1_22 : w1.heap.size + 1 + 1 < w3.heap.size + 1 + 1 := by omega)
      (try have hN3_2_00 : w2.heap.size < w3.heap.size := by omega)
      (try have hN3_2_01 : w2.heap.size < w3.heap.size + 1 := by omega)
      (try have hN3_2_02 : w2.heap.size < w3.heap.size + 1 + 1 := by omega)
      (try have hN3_2_10 : w2.heap.size + 1 < w3.heap.size := by omega)
      (try have hN3_2_11 : w2.heap.size + 1 < w3.heap.size + 1 := by omega)
      (try have hN3_2_12 : w2.heap.size + 1 < w3.heap.size + 1 + 1 := by omega)
      (try have hN3_2_20 : w2.heap.size + 1 + 1 < w3.heap.size := by omega)
      (try have hN3_2_21 : w2.heap.size + 1 + 1 < w3.heap.size + 1 := by omega)
      (try have hN3_2_22 : w2.heap.size + 1 + 1 < w3.heap.size + 1 + 1 := by omega)
      (try have hL3_1 : w1.heap.size ≤ w3.heap.size := by omega)
      (try have hL3_2 : w2.heap.size ≤ w3.heap.size := by omega)
      (try have hS3_1 : w1.heap.size < w3.heap.size := by omega)
      (try have hS3_1' : w1.heap.size + 1 < w3.heap.size := by omega)
      (try have hS3_2 : w2.heap.size < w3.heap.size := by omega)
      (try have hS3_2' : w2.heap.size + 1 < w3.heap.size := by omega)
      go_wp2_with fail
      refine bodyPost_ret (v := .tuple #[.agg #[.int .i64 (iP p q r s), .int .i64 (iQ p q r s), .int .i64 (iR p q r s), .int .i64 (iS p q r s)], .bool true]) (by go_light; simp [results, Tryd.results14, go_sem, *]) rfl ⟨rfl, ?_⟩
      repeat (first | with_reducible exact Below.refl _ _ | with_reducible assumption | ((with_reducible refine blA ?_ ?_); (focus (first | omega | (simp <;> omega)))) | (with_reducible refine blD ?_) | (with_reducible refine blN ?_) | ((with_reducible refine blS ?_ ?_); (focus (first | omega | (simp <;> omega)))) | ((with_reducible refine blT (by assumption) ?_ ?_); (focus (first | omega | (simp <;> omega)))))
    · have hb : minB p q r s = false := by simp [minB, h]; omega
      have hv : minV p q r s = .agg #[.int .i64 0, .int .i64 0, .int .i64 0, .int .i64 0] := if_neg (by simp [hb])
      have hd' : (((dW p q r s).natAbs : Int) != 1) = true := by simp; omega
      rw [hb, hv]
      clear hb hv hd
      go_enter Tryd.func14, Tryd.ntmps14
      go_wp2_with fail
      refine (iMatrix_any _ _ _ _ _).mono ?_
      rintro e4 w4 ⟨rfl, hB4⟩
      obtain ⟨hC4, hF4⟩ := bcell hB4
      have hS4 := hB4.size
      (try simp at hS4)
      (try have hS4_w0 : w.heap.size < w4.heap.size := by omega)
      (try have hS4_w1 : w.heap.size + 1 < w4.heap.size := by omega)
      (try have hS4_w2 : w.heap.size + 1 + 1 < w4.heap.size := by omega)
      (try have hS4_w3 : w.heap.size + 1 + 1 + 1 < w4.heap.size := by omega)
      (try have hS4_w4 : w.heap.size + 1 + 1 + 1 + 1 < w4.heap.size := by omega)
      (try have hL4_w0 : w.heap.size ≤ w4.heap.size := by omega)
      (try have hL4_w1 : w.heap.size + 1 ≤ w4.heap.size := by omega)
      (try have hL4_w2 : w.heap.size + 1 + 1 ≤ w4.heap.size := by omega)
      (try have hL4_w3 : w.heap.size + 1 + 1 + 1 ≤ w4.heap.size := by omega)
      (try have hL4_w : w.heap.size ≤ w4.heap.size + 1 := by omega)
      (try have hM4_1 : w.heap.size < w4.heap.size + 1 := by omega)
      (try have hM4_2 : w.heap.size < w4.heap.size + 1 + 1 := by omega)
      (try have hM4_3 : w.heap.size < w4.heap.size + 1 + 1 + 1 := by omega)
      (try have hN4_1_00 : w1.heap.size < w4.heap.size := by omega)
      (try have hN4_1_01 : w1.heap.size < w4.heap.size + 1 := by omega)
      (try have hN4_1_02 : w1.heap.size < w4.heap.size + 1 + 1 := by omega)
      (try have hN4_1_10 : w1.heap.size + 1 < w4.heap.size := by omega)
      (try have hN4_1_11 : w1.heap.size + 1 < w4.heap.size + 1 := by omega)
      (try have hN4_1_12 : w1.heap.size + 1 < w4.heap.size + 1 + 1 := by omega)
      (try have hN4_1_20 : w1.heap.size + 1 + 1 < w4.heap.size := by omega)
      (try have hN4_1_21 : w1.heap.size + 1 + 1 < w4.heap.size + 1 := by omega)
      (try have hN4_1_22 : w1.heap.size + 1 + 1 < w4.heap.size + 1 + 1 := by omega)
      (try have hN4_2_00 : w2.heap.size < w4.heap.size := by omega)
      (try have hN4_2_01 : w2.heap.size < w4.heap.size + 1 := by omega)
      (try have hN4_2_02 : w2.heap.size < w4.heap.size + 1 + 1 := by omega)
      (try have hN4_2_10 : w2.heap.size + 1 < w4.heap.size := by omega)
      (try have hN4_2_11 : w2.heap.size + 1 < w4.heap.size + 1 := by omega)
      (try have hN4_2_12 : w2.heap.size + 1 < w4.heap.size + 1 + 1 := by omega)
      (try have hN4_2_20 : w2.heap.size + 1 + 1 < w4.heap.size := by omega)
      (try have hN4_2_21 : w2.heap.size + 1 + 1 < w4.heap.size + 1 := by omega)
      (try have hN4_2_22 : w2.heap.size + 1 + 1 < w4.heap.size + 1 + 1 := by omega)
      (try have hN4_3_00 : w3.heap.size < w4.heap.size := by omega)
      (try have hN4_3_01 : w3.heap.size < w4.heap.size + 1 := by omega)
      (try have hN4_3_02 : w3.heap.size < w4.heap.size + 1 + 1 := by omega)
      (try have hN4_3_10 : w3.heap.size + 1 < w4.heap.size := by omega)
      (try have hN4_3_11 : w3.heap.size + 1 < w4.heap.size + 1 := by omega)
      (try have hN4_3_12 : w3.heap.size + 1 < w4.heap.size + 1 + 1 := by omega)
      (try have hN4_3_20 : w3.heap.size + 1 + 1 < w4.heap.size := by omega)
      (try have hN4_3_21 : w3.heap.size + 1 + 1 < w4.heap.size + 1 := by omega)
      (try have hN4_3_22 : w3.heap.size + 1 + 1 < w4.heap.size + 1 + 1 := by omega)
      (try have hL4_1 : w1.heap.size ≤ w4.heap.size := by omega)
      (try have hL4_2 : w2.heap.size ≤ w4.heap.size := by omega)
      (try have hL4_3 : w3.heap.size ≤ w4.heap.size := by omega)
      (try have hS4_1 : w1.heap.size < w4.heap.size := by omega)
      (try have hS4_1' : w1.heap.size + 1 < w4.heap.size := by omega)
      (try have hS4_2 : w2.heap.size < w4.heap.size := by omega)
      (try have hS4_2' : w2.heap.size + 1 < w4.heap.size := by omega)
      (try have hS4_3 : w3.heap.size < w4.heap.size := by omega)
      (try have hS4_3' : w3.heap.size + 1 < w4.heap.size := by omega)
      go_wp2_with fail
      refine (mdet_any _ _ _ _ _).mono ?_
      rintro e5 w5 ⟨rfl, hB5⟩
      obtain ⟨hC5, hF5⟩ := bcell hB5
      have hS5 := hB5.size
      (try simp at hS5)
      (try have hS5_w0 : w.heap.size < w5.heap.size := by omega)
      (try have hS5_w1 : w.heap.size + 1 < w5.heap.size := by omega)
      (try have hS5_w2 : w.heap.size + 1 + 1 < w5.heap.size := by omega)
      (try have hS5_w3 : w.heap.size + 1 + 1 + 1 < w5.heap.size := by omega)
      (try have hS5_w4 : w.heap.size + 1 + 1 + 1 + 1 < w5.heap.size := by omega)
      (try have hL5_w0 : w.heap.size ≤ w5.heap.size := by omega)
      (try have hL5_w1 : w.heap.size + 1 ≤ w5.heap.size := by omega)
      (try have hL5_w2 : w.heap.size + 1 + 1 ≤ w5.heap.size := by omega)
      (try have hL5_w3 : w.heap.size + 1 + 1 + 1 ≤ w5.heap.size := by omega)
      (try have hL5_w : w.heap.size ≤ w5.heap.size + 1 := by omega)
      (try have hM5_1 : w.heap.size < w5.heap.size + 1 := by omega)
      (try have hM5_2 : w.heap.size < w5.heap.size + 1 + 1 := by omega)
      (try have hM5_3 : w.heap.size < w5.heap.size + 1 + 1 + 1 := by omega)
      (try have hN5_2_00 : w2.heap.size < w5.heap.size := by omega)
      (try have hN5_2_01 : w2.heap.size < w5.heap.size + 1 := by omega)
      (try have hN5_2_02 : w2.heap.size < w5.heap.size + 1 + 1 := by omega)
      (try have hN5_2_10 : w2.heap.size + 1 < w5.heap.size := by omega)
      (try have hN5_2_11 : w2.heap.size + 1 < w5.heap.size + 1 := by omega)
      (try have hN5_2_12 : w2.heap.size + 1 < w5.heap.size + 1 + 1 := by omega)
      (try have hN5_2_20 : w2.heap.size + 1 + 1 < w5.heap.size := by omega)
      (try have hN5_2_21 : w2.heap.size + 1 + 1 < w5.heap.size + 1 := by omega)
      (try have hN5_2_22 : w2.heap.size + 1 + 1 < w5.heap.size + 1 + 1 := by omega)
      (try have hN5_3_00 : w3.heap.size < w5.heap.size := by omega)
      (try have hN5_3_01 : w3.heap.size < w5.heap.size + 1 := by omega)
      (try have hN5_3_02 : w3.heap.size < w5.heap.size + 1 + 1 := by omega)
      (try have hN5_3_10 : w3.heap.size + 1 < w5.heap.size := by omega)
      (try have hN5_3_11 : w3.heap.size + 1 < w5.heap.size + 1 := by omega)
      (try have hN5_3_12 : w3.heap.size + 1 < w5.heap.size + 1 + 1 := by omega)
      (try have hN5_3_20 : w3.heap.size + 1 + 1 < w5.heap.size := by omega)
      (try have hN5_3_21 : w3.heap.size + 1 + 1 < w5.heap.size + 1 := by omega)
      (try have hN5_3_22 : w3.heap.size + 1 + 1 < w5.heap.size + 1 + 1 := by omega)
      (try have hN5_4_00 : w4.heap.size < w5.heap.size := by omega)
      (try have hN5_4_01 : w4.heap.size < w5.heap.size + 1 := by omega)
      (try have hN5_4_02 : w4.heap.size < w5.heap.size + 1 + 1 := by omega)
      (try have hN5_4_10 : w4.heap.size + 1 < w5.heap.size := by omega)
      (try have hN5_4_11 : w4.heap.size + 1 < w5.heap.size + 1 := by omega)
      (try have hN5_4_12 : w4.heap.size + 1 < w5.heap.size + 1 + 1 := by omega)
      (try have hN5_4_20 : w4.heap.size + 1 + 1 < w5.heap.size := by omega)
      (try have hN5_4_21 : w4.heap.size + 1 + 1 < w5.heap.size + 1 := by omega)
      (try have hN5_4_22 : w4.heap.size + 1 + 1 < w5.heap.size + 1 + 1 := by omega)
      (try have hL5_1 : w1.heap.size ≤ w5.heap.size := by omega)
      (try have hL5_2 : w2.heap.size ≤ w5.heap.size := by omega)
      (try have hL5_3 : w3.heap.size ≤ w5.heap.size := by omega)
      (try have hL5_4 : w4.heap.size ≤ w5.heap.size := by omega)
      (try have hS5_1 : w1.heap.size < w5.heap.size := by omega)
      (try have hS5_1' : w1.heap.size + 1 < w5.heap.size := by omega)
      (try have hS5_2 : w2.heap.size < w5.heap.size := by omega)
      (try have hS5_2' : w2.heap.size + 1 < w5.heap.size := by omega)
      (try have hS5_3 : w3.heap.size < w5.heap.size := by omega)
      (try have hS5_3' : w3.heap.size + 1 < w5.heap.size := by omega)
      (try have hS5_4 : w4.heap.size < w5.heap.size := by omega)
      (try have hS5_4' : w4.heap.size + 1 < w5.heap.size := by omega)
      go_wp2_with fail
      refine (abs_nat _ _ hJ).mono ?_
      rintro e0 w0 ⟨rfl, rfl⟩
      go_wp2_with fail
      refine bodyPost_ret (v := .tuple #[.agg #[.int .i64 0, .int .i64 0, .int .i64 0, .int .i64 0], .bool false]) (by go_light; simp [results, Tryd.results14, go_sem, *]) rfl ⟨rfl, ?_⟩
      repeat (first | with_reducible exact Below.refl _ _ | with_reducible assumption | ((with_reducible refine blA ?_ ?_); (focus (first | omega | (simp <;> omega)))) | (with_reducible refine blD ?_) | (with_reducible refine blN ?_) | ((with_reducible refine blS ?_ ?_); (focus (first | omega | (simp <;> omega)))) | ((with_reducible refine blT (by assumption) ?_ ?_); (focus (first | omega | (simp <;> omega)))))
  · have h' : mB p q r s = false := by simpa using h
    have hb : minB p q r s = false := by simp [minB, h']
    have hv : minV p q r s = .agg #[.int .i64 0, .int .i64 0, .int .i64 0, .int .i64 0] := if_neg (by simp [hb])
    rw [hb, hv]
    clear hb hv h
    go_enter Tryd.func14, Tryd.ntmps14
    go_wp2_with fail
    refine (iMatrix_any _ _ _ _ _).mono ?_
    rintro e6 w6 ⟨rfl, hB6⟩
    obtain ⟨hC6, hF6⟩ := bcell hB6
    have hS6 := hB6.size
    (try simp at hS6)
    (try have hS6_w0 : w.heap.size < w6.heap.size := by omega)
    (try have hS6_w1 : w.heap.size + 1 < w6.heap.size := by omega)
    (try have hS6_w2 : w.heap.size + 1 + 1 < w6.heap.size := by omega)
    (try have hS6_w3 : w.heap.size + 1 + 1 + 1 < w6.heap.size := by omega)
    (try have hS6_w4 : w.heap.size + 1 + 1 + 1 + 1 < w6.heap.size := by omega)
    (try have hL6_w0 : w.heap.size ≤ w6.heap.size := by omega)
    (try have hL6_w1 : w.heap.size + 1 ≤ w6.heap.size := by omega)
    (try have hL6_w2 : w.heap.size + 1 + 1 ≤ w6.heap.size := by omega)
    (try have hL6_w3 : w.heap.size + 1 + 1 + 1 ≤ w6.heap.size := by omega)
    (try have hL6_w : w.heap.size ≤ w6.heap.size + 1 := by omega)
    (try have hM6_1 : w.heap.size < w6.heap.size + 1 := by omega)
    (try have hM6_2 : w.heap.size < w6.heap.size + 1 + 1 := by omega)
    (try have hM6_3 : w.heap.size < w6.heap.size + 1 + 1 + 1 := by omega)
    (try have hN6_3_00 : w3.heap.size < w6.heap.size := by omega)
    (try have hN6_3_01 : w3.heap.size < w6.heap.size + 1 := by omega)
    (try have hN6_3_02 : w3.heap.size < w6.heap.size + 1 + 1 := by omega)
    (try have hN6_3_10 : w3.heap.size + 1 < w6.heap.size := by omega)
    (try have hN6_3_11 : w3.heap.size + 1 < w6.heap.size + 1 := by omega)
    (try have hN6_3_12 : w3.heap.size + 1 < w6.heap.size + 1 + 1 := by omega)
    (try have hN6_3_20 : w3.heap.size + 1 + 1 < w6.heap.size := by omega)
    (try have hN6_3_21 : w3.heap.size + 1 + 1 < w6.heap.size + 1 := by omega)
    (try have hN6_3_22 : w3.heap.size + 1 + 1 < w6.heap.size + 1 + 1 := by omega)
    (try have hN6_4_00 : w4.heap.size < w6.heap.size := by omega)
    (try have hN6_4_01 : w4.heap.size < w6.heap.size + 1 := by omega)
    (try have hN6_4_02 : w4.heap.size < w6.heap.size + 1 + 1 := by omega)
    (try have hN6_4_10 : w4.heap.size + 1 < w6.heap.size := by omega)
    (try have hN6_4_11 : w4.heap.size + 1 < w6.heap.size + 1 := by omega)
    (try have hN6_4_12 : w4.heap.size + 1 < w6.heap.size + 1 + 1 := by omega)
    (try have hN6_4_20 : w4.heap.size + 1 + 1 < w6.heap.size := by omega)
    (try have hN6_4_21 : w4.heap.size + 1 + 1 < w6.heap.size + 1 := by omega)
    (try have hN6_4_22 : w4.heap.size + 1 + 1 < w6.heap.size + 1 + 1 := by omega)
    (try have hN6_5_00 : w5.heap.size < w6.heap.size := by omega)
    (try have hN6_5_01 : w5.heap.size < w6.heap.size + 1 := by omega)
    (try have hN6_5_02 : w5.heap.size < w6.heap.size + 1 + 1 := by omega)
    (try have hN6_5_10 : w5.heap.size + 1 < w6.heap.size := by omega)
    (try have hN6_5_11 : w5.heap.size + 1 < w6.heap.size + 1 := by omega)
    (try have hN6_5_12 : w5.heap.size + 1 < w6.heap.size + 1 + 1 := by omega)
    (try have hN6_5_20 : w5.heap.size + 1 + 1 < w6.heap.size := by omega)
    (try have hN6_5_21 : w5.heap.size + 1 + 1 < w6.heap.size + 1 := by omega)
    (try have hN6_5_22 : w5.heap.size + 1 + 1 < w6.heap.size + 1 + 1 := by omega)
    (try have hL6_1 : w1.heap.size ≤ w6.heap.size := by omega)
    (try have hL6_2 : w2.heap.size ≤ w6.heap.size := by omega)
    (try have hL6_3 : w3.heap.size ≤ w6.heap.size := by omega)
    (try have hL6_4 : w4.heap.size ≤ w6.heap.size := by omega)
    (try have hL6_5 : w5.heap.size ≤ w6.heap.size := by omega)
    (try have hS6_1 : w1.heap.size < w6.heap.size := by omega)
    (try have hS6_1' : w1.heap.size + 1 < w6.heap.size := by omega)
    (try have hS6_2 : w2.heap.size < w6.heap.size := by omega)
    (try have hS6_2' : w2.heap.size + 1 < w6.heap.size := by omega)
    (try have hS6_3 : w3.heap.size < w6.heap.size := by omega)
    (try have hS6_3' : w3.heap.size + 1 < w6.heap.size := by omega)
    (try have hS6_4 : w4.heap.size < w6.heap.size := by omega)
    (try have hS6_4' : w4.heap.size + 1 < w6.heap.size := by omega)
    (try have hS6_5 : w5.heap.size < w6.heap.size := by omega)
    (try have hS6_5' : w5.heap.size + 1 < w6.heap.size := by omega)
    go_wp2_with fail
    refine bodyPost_ret (v := .tuple #[.agg #[.int .i64 0, .int .i64 0, .int .i64 0, .int .i64 0], .bool false]) (by go_light; simp [results, Tryd.results14, go_sem, *]) rfl ⟨rfl, ?_⟩
    repeat (first | with_reducible exact Below.refl _ _ | with_reducible assumption | ((with_reducible refine blA ?_ ?_); (focus (first | omega | (simp <;> omega)))) | (with_reducible refine blD ?_) | (with_reducible refine blN ?_) | ((with_reducible refine blS ?_ ?_); (focus (first | omega | (simp <;> omega)))) | ((with_reducible refine blT (by assumption) ?_ ?_); (focus (first | omega | (simp <;> omega)))))
set_option maxHeartbeats 2000000 in
theorem sMatrixInverse_any (p q r s : Int) (w : World) :
    Calls Tryd.prog 15 #[.agg #[.int .i64 p, .int .i64 q, .int .i64 r, .int .i64 s]] w fun en w' => en = .returned (.tuple #[minV p q r s, .bool (minB p q r s)]) ∧ Below w.heap.size w w' := by
  by_cases h : mB p q r s = true
  · have hJ := dW_J h
    by_cases hd : ((dW p q r s).natAbs : Int) = 1
    · have hb : minB p q r s = true := by simp [minB, h, hd]
      have hv : minV p q r s = .agg #[.int .i64 (iP p q r s), .int .i64 (iQ p q r s), .int .i64 (iR p q r s), .int .i64 (iS p q r s)] := if_pos hb
      rw [hb, hv]
      clear hb hv
      go_enter Tryd.func15, Tryd.ntmps15
      go_wp2_with fail
      refine (sMatrix_any _ _ _ _ _).mono ?_
      rintro e1 w1 ⟨rfl, hB1⟩
      obtain ⟨hC1, hF1⟩ := bcell hB1
      have hS1 := hB1.size
      (try simp at hS1)
      (try have hS1_w0 : w.heap.size < w1.heap.size := by omega)
      (try have hS1_w1 : w.heap.size + 1 < w1.heap.size := by omega)
      (try have hS1_w2 : w.heap.size + 1 + 1 < w1.heap.size := by omega)
      (try have hS1_w3 : w.heap.size + 1 + 1 + 1 < w1.heap.size := by omega)
      (try have hS1_w4 : w.heap.size + 1 + 1 + 1 + 1 < w1.heap.size := by omega)
      (try have hL1_w0 : w.heap.size ≤ w1.heap.size := by omega)
      (try have hL1_w1 : w.heap.size + 1 ≤ w1.heap.size := by omega)
      (try have hL1_w2 : w.heap.size + 1 + 1 ≤ w1.heap.size := by omega)
      (try have hL1_w3 : w.heap.size + 1 + 1 + 1 ≤ w1.heap.size := by omega)
      (try have hL1_w : w.heap.size ≤ w1.heap.size + 1 := by omega)
      (try have hM1_1 : w.heap.size < w1.heap.size + 1 := by omega)
      (try have hM1_2 : w.heap.size < w1.heap.size + 1 + 1 := by omega)
      (try have hM1_3 : w.heap.size < w1.heap.size + 1 + 1 + 1 := by omega)
      go_wp2_with fail
      refine (sdet_any _ _ _ _ _).mono ?_
      rintro e2 w2 ⟨rfl, hB2⟩
      obtain ⟨hC2, hF2⟩ := bcell hB2
      have hS2 := hB2.size
      (try simp at hS2)
      (try have hS2_w0 : w.heap.size < w2.heap.size := by omega)
      (try have hS2_w1 : w.heap.size + 1 < w2.heap.size := by omega)
      (try have hS2_w2 : w.heap.size + 1 + 1 < w2.heap.size := by omega)
      (try have hS2_w3 : w.heap.size + 1 + 1 + 1 < w2.heap.size := by omega)
      (try have hS2_w4 : w.heap.size + 1 + 1 + 1 + 1 < w2.heap.size := by omega)
      (try have hL2_w0 : w.heap.size ≤ w2.heap.size := by omega)
      (try have hL2_w1 : w.heap.size + 1 ≤ w2.heap.size := by omega)
      (try have hL2_w2 : w.heap.size + 1 + 1 ≤ w2.heap.size := by omega)
      (try have hL2_w3 : w.heap.size + 1 + 1 + 1 ≤ w2.heap.size := by omega)
      (try have hL2_w : w.heap.size ≤ w2.heap.size + 1 := by omega)
      (try have hM2_1 : w.heap.size < w2.heap.size + 1 := by omega)
      (try have hM2_2 : w.heap.size < w2.heap.size + 1 + 1 := by omega)
      (try have hM2_3 : w.heap.size < w2.heap.size + 1 + 1 + 1 := by omega)
      (try have hN2_1_00 : w1.heap.size < w2.heap.size := by omega)
      (try have hN2_1_01 : w1.heap.size < w2.heap.size + 1 := by omega)
      (try have hN2_1_02 : w1.heap.size < w2.heap.size + 1 + 1 := by omega)
      (try have hN2_1_10 : w1.heap.size + 1 < w2.heap.size := by omega)
      (try have hN2_1_11 : w1.heap.size + 1 < w2.heap.size + 1 := by omega)
      (try have hN2_1_12 : w1.heap.size + 1 < w2.heap.size + 1 + 1 := by omega)
      (try have hN2_1_20 : w1.heap.size + 1 + 1 < w2.heap.size := by omega)
      (try have hN2_1_21 : w1.heap.size + 1 + 1 < w2.heap.size + 1 := by omega)
      (try have hN2_1_22 : w1.heap.size + 1 + 1 < w2.heap.size + 1 + 1 := by omega)
      (try have hL2_1 : w1.heap.size ≤ w2.heap.size := by omega)
      (try have hS2_1 : w1.heap.size < w2.heap.size := by omega)
      (try have hS2_1' : w1.heap.size + 1 < w2.heap.size := by omega)
      go_wp2_with fail
      refine (l1Abs_any _ _ hJ).mono ?_
      rintro e0 w0 ⟨rfl, rfl⟩
      go_wp2_with fail
      refine (sinv_any _ _ _ _ _).mono ?_
      rintro e3 w3 ⟨rfl, hB3⟩
      obtain ⟨hC3, hF3⟩ := bcell hB3
      have hS3 := hB3.size
      (try simp at hS3)
      (try have hS3_w0 : w.heap.size < w3.heap.size := by omega)
      (try have hS3_w1 : w.heap.size + 1 < w3.heap.size := by omega)
      (try have hS3_w2 : w.heap.size + 1 + 1 < w3.heap.size := by omega)
      (try have hS3_w3 : w.heap.size + 1 + 1 + 1 < w3.heap.size := by omega)
      (try have hS3_w4 : w.heap.size + 1 + 1 + 1 + 1 < w3.heap.size := by omega)
      (try have hL3_w0 : w.heap.size ≤ w3.heap.size := by omega)
      (try have hL3_w1 : w.heap.size + 1 ≤ w3.heap.size := by omega)
      (try have hL3_w2 : w.heap.size + 1 + 1 ≤ w3.heap.size := by omega)
      (try have hL3_w3 : w.heap.size + 1 + 1 + 1 ≤ w3.heap.size := by omega)
      (try have hL3_w : w.heap.size ≤ w3.heap.size + 1 := by omega)
      (try have hM3_1 : w.heap.size < w3.heap.size + 1 := by omega)
      (try have hM3_2 : w.heap.size < w3.heap.size + 1 + 1 := by omega)
      (try have hM3_3 : w.heap.size < w3.heap.size + 1 + 1 + 1 := by omega)
      (try have hN3_1_00 : w1.heap.size < w3.heap.size := by omega)
      (try have hN3_1_01 : w1.heap.size < w3.heap.size + 1 := by omega)
      (try have hN3_1_02 : w1.heap.size < w3.heap.size + 1 + 1 := by omega)
      (try have hN3_1_10 : w1.heap.size + 1 < w3.heap.size := by omega)
      (try have hN3_1_11 : w1.heap.size + 1 < w3.heap.size + 1 := by omega)
      (try have hN3_1_12 : w1.heap.size + 1 < w3.heap.size + 1 + 1 := by omega)
      (try have hN3_1_20 : w1.heap.size + 1 + 1 < w3.heap.size := by omega)
      (try have hN3_1_21 : w1.heap.size + 1 + 1 < w3.heap.size + 1 := by omega)
      (try have hN3_1_22 : w1.heap.size + 1 + 1 < w3.heap.size + 1 + 1 := by omega)
      (try have hN3_2_00 : w2.heap.size < w3.heap.size := by omega)
      (try have hN3_2_01 : w2.heap.size < w3.heap.size + 1 := by omega)
      (try have hN3_2_02 : w2.heap.size < w3.heap.size + 1 + 1 := by omega)
      (try have hN3_2_10 : w2.heap.size + 1 < w3.heap.size := by omega)
      (try have hN3_2_11 : w2.heap.size + 1 < w3.heap.size + 1 := by omega)
      (try have hN3_2_12 : w2.heap.size + 1 < w3.heap.size + 1 + 1 := by omega)
      (try have hN3_2_20 : w2.heap.size + 1 + 1 < w3.heap.size := by omega)
      (try have hN3_2_21 : w2.heap.size + 1 + 1 < w3.heap.size + 1 := by omega)
      (try have hN3_2_22 : w2.heap.size + 1 + 1 < w3.heap.size + 1 + 1 := by omega)
      (try have hL3_1 : w1.heap.size ≤ w3.heap.size := by omega)
      (try have hL3_2 : w2.heap.size ≤ w3.heap.size := by omega)
      (try have hS3_1 : w1.heap.size < w3.heap.size := by omega)
      (try have hS3_1' : w1.heap.size + 1 < w3.heap.size := by omega)
      (try have hS3_2 : w2.heap.size < w3.heap.size := by omega)
      (try have hS3_2' : w2.heap.size + 1 < w3.heap.size := by omega)
      go_wp2_with fail
      refine bodyPost_ret (v := .tuple #[.agg #[.int .i64 (iP p q r s), .int .i64 (iQ p q r s), .int .i64 (iR p q r s), .int .i64 (iS p q r s)], .bool true]) (by go_light; simp [results, Tryd.results15, go_sem, *]) rfl ⟨rfl, ?_⟩
      repeat (first | with_reducible exact Below.refl _ _ | with_reducible assumption | ((with_reducible refine blA ?_ ?_); (focus (first | omega | (simp <;> omega)))) | (with_reducible refine blD ?_) | (with_reducible refine blN ?_) | ((with_reducible refine blS ?_ ?_); (focus (first | omega | (simp <;> omega)))) | ((with_reducible refine blT (by assumption) ?_ ?_); (focus (first | omega | (simp <;> omega)))))
    · have hb : minB p q r s = false := by simp [minB, h]; omega
      have hv : minV p q r s = .agg #[.int .i64 0, .int .i64 0, .int .i64 0, .int .i64 0] := if_neg (by simp [hb])
      have hd' : (((dW p q r s).natAbs : Int) != 1) = true := by simp; omega
      rw [hb, hv]
      clear hb hv hd
      go_enter Tryd.func15, Tryd.ntmps15
      go_wp2_with fail
      refine (sMatrix_any _ _ _ _ _).mono ?_
      rintro e4 w4 ⟨rfl, hB4⟩
      obtain ⟨hC4, hF4⟩ := bcell hB4
      have hS4 := hB4.size
      (try simp at hS4)
      (try have hS4_w0 : w.heap.size < w4.heap.size := by omega)
      (try have hS4_w1 : w.heap.size + 1 < w4.heap.size := by omega)
      (try have hS4_w2 : w.heap.size + 1 + 1 < w4.heap.size := by omega)
      (try have hS4_w3 : w.heap.size + 1 + 1 + 1 < w4.heap.size := by omega)
      (try have hS4_w4 : w.heap.size + 1 + 1 + 1 + 1 < w4.heap.size := by omega)
      (try have hL4_w0 : w.heap.size ≤ w4.heap.size := by omega)
      (try have hL4_w1 : w.heap.size + 1 ≤ w4.heap.size := by omega)
      (try have hL4_w2 : w.heap.size + 1 + 1 ≤ w4.heap.size := by omega)
      (try have hL4_w3 : w.heap.size + 1 + 1 + 1 ≤ w4.heap.size := by omega)
      (try have hL4_w : w.heap.size ≤ w4.heap.size + 1 := by omega)
      (try have hM4_1 : w.heap.size < w4.heap.size + 1 := by omega)
      (try have hM4_2 : w.heap.size < w4.heap.size + 1 + 1 := by omega)
      (try have hM4_3 : w.heap.size < w4.heap.size + 1 + 1 + 1 := by omega)
      (try have hN4_1_00 : w1.heap.size < w4.heap.size := by omega)
      (try have hN4_1_01 : w1.heap.size < w4.heap.size + 1 := by omega)
      (try have hN4_1_02 : w1.heap.size < w4.heap.size + 1 + 1 := by omega)
      (try have hN4_1_10 : w1.heap.size + 1 < w4.heap.size := by omega)
      (try have hN4_1_11 : w1.heap.size + 1 < w4.heap.size + 1 := by omega)
      (try have hN4_1_12 : w1.heap.size + 1 < w4.heap.size + 1 + 1 := by omega)
      (try have hN4_1_20 : w1.heap.size + 1 + 1 < w4.heap.size := by omega)
      (try have hN4_1_21 : w1.heap.size + 1 + 1 < w4.heap.size + 1 := by omega)
      (try have hN4_1_22 : w1.heap.size + 1 + 1 < w4.heap.size + 1 + 1 := by omega)
      (try have hN4_2_00 : w2.heap.size < w4.heap.size := by omega)
      (try have hN4_2_01 : w2.heap.size < w4.heap.size + 1 := by omega)
      (try have hN4_2_02 : w2.heap.size < w4.heap.size + 1 + 1 := by omega)
      (try have hN4_2_10 : w2.heap.size + 1 < w4.heap.size := by omega)
      (try have hN4_2_11 : w2.heap.size + 1 < w4.heap.size + 1 := by omega)
      (try have hN4_2_12 : w2.heap.size + 1 < w4.heap.size + 1 + 1 := by omega)
      (try have hN4_2_20 : w2.heap.size + 1 + 1 < w4.heap.size := by omega)
      (try have hN4_2_21 : w2.heap.size + 1 + 1 < w4.heap.size + 1 := by omega)
      (try have hN4_2_22 : w2.heap.size + 1 + 1 < w4.heap.size + 1 + 1 := by omega)
      (try have hN4_3_00 : w3.heap.size < w4.heap.size := by omega)
      (try have hN4_3_01 : w3.heap.size < w4.heap.size + 1 := by omega)
      (try have hN4_3_02 : w3.heap.size < w4.heap.size + 1 + 1 := by omega)
      (try have hN4_3_10 : w3.heap.size + 1 < w4.heap.size := by omega)
      (try have hN4_3_11 : w3.heap.size + 1 < w4.heap.size + 1 := by omega)
      (try have hN4_3_12 : w3.heap.size + 1 < w4.heap.size + 1 + 1 := by omega)
      (try have hN4_3_20 : w3.heap.size + 1 + 1 < w4.heap.size := by omega)
      (try have hN4_3_21 : w3.heap.size + 1 + 1 < w4.heap.size + 1 := by omega)
      (try have hN4_3_22 : w3.heap.size + 1 + 1 < w4.heap.size + 1 + 1 := by omega)
      (try have hL4_1 : w1.heap.size ≤ w4.heap.size := by omega)
      (try have hL4_2 : w2.heap.size ≤ w4.heap.size := by omega)
      (try have hL4_3 : w3.heap.size ≤ w4.heap.size := by omega)
      (try have hS4_1 : w1.heap.size < w4.heap.size := by omega)
      (try have hS4_1' : w1.heap.size + 1 < w4.heap.size := by omega)
      (try have hS4_2 : w2.heap.size < w4.heap.size := by omega)
      (try have hS4_2' : w2.heap.size + 1 < w4.heap.size := by omega)
      (try have hS4_3 : w3.heap.size < w4.heap.size := by omega)
      (try have hS4_3' : w3.heap.size + 1 < w4.heap.size := by omega)
      go_wp2_with fail
      refine (sdet_any _ _ _ _ _).mono ?_
      rintro e5 w5 ⟨rfl, hB5⟩
      obtain ⟨hC5, hF5⟩ := bcell hB5
      have hS5 := hB5.size
      (try simp at hS5)
      (try have hS5_w0 : w.heap.size < w5.heap.size := by omega)
      (try have hS5_w1 : w.heap.size + 1 < w5.heap.size := by omega)
      (try have hS5_w2 : w.heap.size + 1 + 1 < w5.heap.size := by omega)
      (try have hS5_w3 : w.heap.size + 1 + 1 + 1 < w5.heap.size := by omega)
      (try have hS5_w4 : w.heap.size + 1 + 1 + 1 + 1 < w5.heap.size := by omega)
      (try have hL5_w0 : w.heap.size ≤ w5.heap.size := by omega)
      (try have hL5_w1 : w.heap.size + 1 ≤ w5.heap.size := by omega)
      (try have hL5_w2 : w.heap.size + 1 + 1 ≤ w5.heap.size := by omega)
      (try have hL5_w3 : w.heap.size + 1 + 1 + 1 ≤ w5.heap.size := by omega)
      (try have hL5_w : w.heap.size ≤ w5.heap.size + 1 := by omega)
      (try have hM5_1 : w.heap.size < w5.heap.size + 1 := by omega)
      (try have hM5_2 : w.heap.size < w5.heap.size + 1 + 1 := by omega)
      (try have hM5_3 : w.heap.size < w5.heap.size + 1 + 1 + 1 := by omega)
      (try have hN5_2_00 : w2.heap.size < w5.heap.size := by omega)
      (try have hN5_2_01 : w2.heap.size < w5.heap.size + 1 := by omega)
      (try have hN5_2_02 : w2.heap.size < w5.heap.size + 1 + 1 := by omega)
      (try have hN5_2_10 : w2.heap.size + 1 < w5.heap.size := by omega)
      (try have hN5_2_11 : w2.heap.size + 1 < w5.heap.size + 1 := by omega)
      (try have hN5_2_12 : w2.heap.size + 1 < w5.heap.size + 1 + 1 := by omega)
      (try have hN5_2_20 : w2.heap.size + 1 + 1 < w5.heap.size := by omega)
      (try have hN5_2_21 : w2.heap.size + 1 + 1 < w5.heap.size + 1 := by omega)
      (try have hN5_2_22 : w2.heap.size + 1 + 1 < w5.heap.size + 1 + 1 := by omega)
      (try have hN5_3_00 : w3.heap.size < w5.heap.size := by omega)
      (try have hN5_3_01 : w3.heap.size < w5.heap.size + 1 := by omega)
      (try have hN5_3_02 : w3.heap.size < w5.heap.size + 1 + 1 := by omega)
      (try have hN5_3_10 : w3.heap.size + 1 < w5.heap.size := by omega)
      (try have hN5_3_11 : w3.heap.size + 1 < w5.heap.size + 1 := by omega)
      (try have hN5_3_12 : w3.heap.size + 1 < w5.heap.size + 1 + 1 := by omega)
      (try have hN5_3_20 : w3.heap.size + 1 + 1 < w5.heap.size := by omega)
      (try have hN5_3_21 : w3.heap.size + 1 + 1 < w5.heap.size + 1 := by omega)
      (try have hN5_3_22 : w3.heap.size + 1 + 1 < w5.heap.size + 1 + 1 := by omega)
      (try have hN5_4_00 : w4.heap.size < w5.heap.size := by omega)
      (try have hN5_4_01 : w4.heap.size < w5.heap.size + 1 := by omega)
      (try have hN5_4_02 : w4.heap.size < w5.heap.size + 1 + 1 := by omega)
      (try have hN5_4_10 : w4.heap.size + 1 < w5.heap.size := by omega)
      (try have hN5_4_11 : w4.heap.size + 1 < w5.heap.size + 1 := by omega)
      (try have hN5_4_12 : w4.heap.size + 1 < w5.heap.size + 1 + 1 := by omega)
      (try have hN5_4_20 : w4.heap.size + 1 + 1 < w5.heap.size := by omega)
      (try have hN5_4_21 : w4.heap.size + 1 + 1 < w5.heap.size + 1 := by omega)
      (try have hN5_4_22 : w4.heap.size + 1 + 1 < w5.heap.size + 1 + 1 := by omega)
      (try have hL5_1 : w1.heap.size ≤ w5.heap.size := by omega)
      (try have hL5_2 : w2.heap.size ≤ w5.heap.size := by omega)
      (try have hL5_3 : w3.heap.size ≤ w5.heap.size := by omega)
      (try have hL5_4 : w4.heap.size ≤ w5.heap.size := by omega)
      (try have hS5_1 : w1.heap.size < w5.heap.size := by omega)
      (try have hS5_1' : w1.heap.size + 1 < w5.heap.size := by omega)
      (try have hS5_2 : w2.heap.size < w5.heap.size := by omega)
      (try have hS5_2' : w2.heap.size + 1 < w5.heap.size := by omega)
      (try have hS5_3 : w3.heap.size < w5.heap.size := by omega)
      (try have hS5_3' : w3.heap.size + 1 < w5.heap.size := by omega)
      (try have hS5_4 : w4.heap.size < w5.heap.size := by omega)
      (try have hS5_4' : w4.heap.size + 1 < w5.heap.size := by omega)
      go_wp2_with fail
      refine (l1Abs_any _ _ hJ).mono ?_
      rintro e0 w0 ⟨rfl, rfl⟩
      go_wp2_with fail
      refine bodyPost_ret (v := .tuple #[.agg #[.int .i64 0, .int .i64 0, .int .i64 0, .int .i64 0], .bool false]) (by go_light; simp [results, Tryd.results15, go_sem, *]) rfl ⟨rfl, ?_⟩
      repeat (first | with_reducible exact Below.refl _ _ | with_reducible assumption | ((with_reducible refine blA ?_ ?_); (focus (first | omega | (simp <;> omega)))) | (with_reducible refine blD ?_) | (with_reducible refine blN ?_) | ((with_reducible refine blS ?_ ?_); (focus (first | omega | (simp <;> omega)))) | ((with_reducible refine blT (by assumption) ?_ ?_); (focus (first | omega | (simp <;> omega)))))
  · have h' : mB p q r s = false := by simpa using h
    have hb : minB p q r s = false := by simp [minB, h']
    have hv : minV p q r s = .agg #[.int .i64 0, .int .i64 0, .int .i64 0, .int .i64 0] := if_neg (by simp [hb])
    rw [hb, hv]
    clear hb hv h
    go_enter Tryd.func15, Tryd.ntmps15
    go_wp2_with fail
    refine (sMatrix_any _ _ _ _ _).mono ?_
    rintro e6 w6 ⟨rfl, hB6⟩
    obtain ⟨hC6, hF6⟩ := bcell hB6
    have hS6 := hB6.size
    (try simp at hS6)
    (try have hS6_w0 : w.heap.size < w6.heap.size := by omega)
    (try have hS6_w1 : w.heap.size + 1 < w6.heap.size := by omega)
    (try have hS6_w2 : w.heap.size + 1 + 1 < w6.heap.size := by omega)
    (try have hS6_w3 : w.heap.size + 1 + 1 + 1 < w6.heap.size := by omega)
    (try have hS6_w4 : w.heap.size + 1 + 1 + 1 + 1 < w6.heap.size := by omega)
    (try have hL6_w0 : w.heap.size ≤ w6.heap.size := by omega)
    (try have hL6_w1 : w.heap.size + 1 ≤ w6.heap.size := by omega)
    (try have hL6_w2 : w.heap.size + 1 + 1 ≤ w6.heap.size := by omega)
    (try have hL6_w3 : w.heap.size + 1 + 1 + 1 ≤ w6.heap.size := by omega)
    (try have hL6_w : w.heap.size ≤ w6.heap.size + 1 := by omega)
    (try have hM6_1 : w.heap.size < w6.heap.size + 1 := by omega)
    (try have hM6_2 : w.heap.size < w6.heap.size + 1 + 1 := by omega)
    (try have hM6_3 : w.heap.size < w6.heap.size + 1 + 1 + 1 := by omega)
    (try have hN6_3_00 : w3.heap.size < w6.heap.size := by omega)
    (try have hN6_3_01 : w3.heap.size < w6.heap.size + 1 := by omega)
    (try have hN6_3_02 : w3.heap.size < w6.heap.size + 1 + 1 := by omega)
    (try have hN6_3_10 : w3.heap.size + 1 < w6.heap.size := by omega)
    (try have hN6_3_11 : w3.heap.size + 1 < w6.heap.size + 1 := by omega)
    (try have hN6_3_12 : w3.heap.size + 1 < w6.heap.size + 1 + 1 := by omega)
    (try have hN6_3_20 : w3.heap.size + 1 + 1 < w6.heap.size := by omega)
    (try have hN6_3_21 : w3.heap.size + 1 + 1 < w6.heap.size + 1 := by omega)
    (try have hN6_3_22 : w3.heap.size + 1 + 1 < w6.heap.size + 1 + 1 := by omega)
    (try have hN6_4_00 : w4.heap.size < w6.heap.size := by omega)
    (try have hN6_4_01 : w4.heap.size < w6.heap.size + 1 := by omega)
    (try have hN6_4_02 : w4.heap.size < w6.heap.size + 1 + 1 := by omega)
    (try have hN6_4_10 : w4.heap.size + 1 < w6.heap.size := by omega)
    (try have hN6_4_11 : w4.heap.size + 1 < w6.heap.size + 1 := by omega)
    (try have hN6_4_12 : w4.heap.size + 1 < w6.heap.size + 1 + 1 := by omega)
    (try have hN6_4_20 : w4.heap.size + 1 + 1 < w6.heap.size := by omega)
    (try have hN6_4_21 : w4.heap.size + 1 + 1 < w6.heap.size + 1 := by omega)
    (try have hN6_4_22 : w4.heap.size + 1 + 1 < w6.heap.size + 1 + 1 := by omega)
    (try have hN6_5_00 : w5.heap.size < w6.heap.size := by omega)
    (try have hN6_5_01 : w5.heap.size < w6.heap.size + 1 := by omega)
    (try have hN6_5_02 : w5.heap.size < w6.heap.size + 1 + 1 := by omega)
    (try have hN6_5_10 : w5.heap.size + 1 < w6.heap.size := by omega)
    (try have hN6_5_11 : w5.heap.size + 1 < w6.heap.size + 1 := by omega)
    (try have hN6_5_12 : w5.heap.size + 1 < w6.heap.size + 1 + 1 := by omega)
    (try have hN6_5_20 : w5.heap.size + 1 + 1 < w6.heap.size := by omega)
    (try have hN6_5_21 : w5.heap.size + 1 + 1 < w6.heap.size + 1 := by omega)
    (try have hN6_5_22 : w5.heap.size + 1 + 1 < w6.heap.size + 1 + 1 := by omega)
    (try have hL6_1 : w1.heap.size ≤ w6.heap.size := by omega)
    (try have hL6_2 : w2.heap.size ≤ w6.heap.size := by omega)
    (try have hL6_3 : w3.heap.size ≤ w6.heap.size := by omega)
    (try have hL6_4 : w4.heap.size ≤ w6.heap.size := by omega)
    (try have hL6_5 : w5.heap.size ≤ w6.heap.size := by omega)
    (try have hS6_1 : w1.heap.size < w6.heap.size := by omega)
    (try have hS6_1' : w1.heap.size + 1 < w6.heap.size := by omega)
    (try have hS6_2 : w2.heap.size < w6.heap.size := by omega)
    (try have hS6_2' : w2.heap.size + 1 < w6.heap.size := by omega)
    (try have hS6_3 : w3.heap.size < w6.heap.size := by omega)
    (try have hS6_3' : w3.heap.size + 1 < w6.heap.size := by omega)
    (try have hS6_4 : w4.heap.size < w6.heap.size := by omega)
    (try have hS6_4' : w4.heap.size + 1 < w6.heap.size := by omega)
    (try have hS6_5 : w5.heap.size < w6.heap.size := by omega)
    (try have hS6_5' : w5.heap.size + 1 < w6.heap.size := by omega)
    go_wp2_with fail
    refine bodyPost_ret (v := .tuple #[.agg #[.int .i64 0, .int .i64 0, .int .i64 0, .int .i64 0], .bool false]) (by go_light; simp [results, Tryd.results15, go_sem, *]) rfl ⟨rfl, ?_⟩
    repeat (first | with_reducible exact Below.refl _ _ | with_reducible assumption | ((with_reducible refine blA ?_ ?_); (focus (first | omega | (simp <;> omega)))) | (with_reducible refine blD ?_) | (with_reducible refine blN ?_) | ((with_reducible refine blS ?_ ?_); (focus (first | omega | (simp <;> omega)))) | ((with_reducible refine blT (by assumption) ?_ ?_); (focus (first | omega | (simp <;> omega)))))
end Go.Proofs.YtlfbanoabipacaaDoor
