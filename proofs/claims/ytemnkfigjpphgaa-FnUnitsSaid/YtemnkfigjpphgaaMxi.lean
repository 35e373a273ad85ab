/-
  Matrices: the inverse, the product with it, and the polar form's value at numbers.
-/
import Derived.Test.YtemnkfigjpphgaaRws
import Derived.Test.YtemnkfigjpphgaaForm
namespace Go.Proofs.Ytemnkfigjpphgaa
open Go.RowKit
attribute [local simp, local go_sem] past_cell past_frozen past_tape
def mB (p q r s : Int) : Bool := numB p && numB q && numB r && numB s
def dW (p q r s : Int) : Int := wrap64 (wrap64 (p * s) - wrap64 (q * r))
theorem mB_bd {p q r s : Int} (h : mB p q r s = true) : Bd 1000000 p ∧ Bd 1000000 q ∧ Bd 1000000 r ∧ Bd 1000000 s := by
  simp only [mB, Bool.and_eq_true] at h
  exact ⟨numB_bd h.1.1.1, numB_bd h.1.1.2, numB_bd h.1.2, numB_bd h.2⟩
theorem dW_eq {p q r s : Int} (h : mB p q r s = true) : dW p q r s = p * s - q * r := by
  obtain ⟨hp, hq, hr, hs⟩ := mB_bd h
  have h1 := mul_bd hp hs (show (1000000 : Int) * 1000000 ≤ 1000000000000 by decide)
  have h2 := mul_bd hq hr (show (1000000 : Int) * 1000000 ≤ 1000000000000 by decide)
  obtain ⟨b1, b2⟩ := h1
  obtain ⟨c1, c2⟩ := h2
  unfold dW
  rw [IntWalk.wrap64_in (p * s) ⟨by omega, by omega⟩, IntWalk.wrap64_in (q * r) ⟨by omega, by omega⟩, IntWalk.wrap64_in _ ⟨by omega, by omega⟩]
theorem dW_I (p q r s : Int) : I64 (dW p q r s) := by unfold dW wrap64 I64; omega
def iP (p q r s : Int) : Int := wrap64 (dW p q r s * s)
def iQ (p q r s : Int) : Int := wrap64 (wrap64 (-dW p q r s) * q)
def iR (p q r s : Int) : Int := wrap64 (wrap64 (-dW p q r s) * r)
def iS (p q r s : Int) : Int := wrap64 (dW p q r s * p)
theorem mdet_any (p q r s : Int) (w : World) :
    Calls Try.prog 85 #[.agg #[.int .i64 p, .int .i64 q, .int .i64 r, .int .i64 s]] w fun en w' => en = .returned (.int .i64 (dW p q r s)) ∧ Below w.heap.size w w' := by
  go_enter Try.func85, Try.ntmps85
  go_wp2
  go_ret
  refine ⟨rfl, ?_⟩
  repeat (first | with_reducible exact Below.refl _ _ | with_reducible assumption | ((with_reducible refine blA ?_ ?_); (focus (first | omega | (simp <;> omega)))) | (with_reducible refine blD ?_) | (with_reducible refine blN ?_) | ((with_reducible refine blS ?_ ?_); (focus (first | omega | (simp <;> omega)))) | ((with_reducible refine blT (by assumption) ?_ ?_); (focus (first | omega | (simp <;> omega)))))
theorem sdet_any (p q r s : Int) (w : World) :
    Calls Try.prog 116 #[.agg #[.int .i64 p, .int .i64 q, .int .i64 r, .int .i64 s]] w fun en w' => en = .returned (.int .i64 (dW p q r s)) ∧ Below w.heap.size w w' := by
  go_enter Try.func116, Try.ntmps116
  go_wp2
  go_ret
  refine ⟨rfl, ?_⟩
  repeat (first | with_reducible exact Below.refl _ _ | with_reducible assumption | ((with_reducible refine blA ?_ ?_); (focus (first | omega | (simp <;> omega)))) | (with_reducible refine blD ?_) | (with_reducible refine blN ?_) | ((with_reducible refine blS ?_ ?_); (focus (first | omega | (simp <;> omega)))) | ((with_reducible refine blT (by assumption) ?_ ?_); (focus (first | omega | (simp <;> omega)))))
theorem iMatrix_any (p q r s : Int) (w : World) :
    Calls Try.prog 70 #[.agg #[.int .i64 p, .int .i64 q, .int .i64 r, .int .i64 s]] w fun en w' => en = .returned (.bool (mB p q r s)) ∧ Below w.heap.size w w' := by
  go_enter Try.func70, Try.ntmps70
  go_wp2_with (go_at_call 104; refine (areNumbers_any [p, q, r, s] _ _ (by simp) ?hc).mono ?_)
  case hc => intro i hi; match i, hi with | 0, _ => simp [go_sem] | 1, _ => simp [go_sem] | 2, _ => simp [go_sem] | 3, _ => simp [go_sem]
  rintro e w' ⟨rfl, rfl⟩
  go_wp2
  go_ret
  refine ⟨ret_bool (by simp [mB, Bool.and_assoc]), ?_⟩
  repeat (first | with_reducible exact Below.refl _ _ | with_reducible assumption | ((with_reducible refine blA ?_ ?_); (focus (first | omega | (simp <;> omega)))) | (with_reducible refine blD ?_) | (with_reducible refine blN ?_) | ((with_reducible refine blS ?_ ?_); (focus (first | omega | (simp <;> omega)))) | ((with_reducible refine blT (by assumption) ?_ ?_); (focus (first | omega | (simp <;> omega)))))
theorem sMatrix_any (p q r s : Int) (w : World) :
    Calls Try.prog 81 #[.agg #[.int .i64 p, .int .i64 q, .int .i64 r, .int .i64 s]] w fun en w' => en = .returned (.bool (mB p q r s)) ∧ Below w.heap.size w w' := by
  go_enter Try.func81, Try.ntmps81
  go_wp2_with (go_at_call 108; refine (nuGood_any _ _).mono ?_; rintro e w' ⟨rfl, rfl⟩)
  all_goals
    go_ret
    refine ⟨ret_bool ?_, ?_⟩
    · go_light; simp [mB, *]
    · repeat (first | with_reducible exact Below.refl _ _ | with_reducible assumption | ((with_reducible refine blA ?_ ?_); (focus (first | omega | (simp <;> omega)))) | (with_reducible refine blD ?_) | (with_reducible refine blN ?_) | ((with_reducible refine blS ?_ ?_); (focus (first | omega | (simp <;> omega)))) | ((with_reducible refine blT (by assumption) ?_ ?_); (focus (first | omega | (simp <;> omega)))))
theorem minv_any (p q r s : Int) (w : World) :
    Calls Try.prog 72 #[.agg #[.int .i64 p, .int .i64 q, .int .i64 r, .int .i64 s]] w fun en w' => en = .returned (.agg #[.int .i64 (iP p q r s), .int .i64 (iQ p q r s), .int .i64 (iR p q r s), .int .i64 (iS p q r s)]) ∧ Below w.heap.size w w' := by
  go_enter Try.func72, Try.ntmps72
  go_wp2_with fail
  refine (mdet_any _ _ _ _ _).mono ?_
  rintro e1 w1 ⟨rfl, hB1⟩
  obtain ⟨hC1, hF1⟩ := bcell hB1
  have hS1 := hB1.size
  (try simp at hS1)
  (try have hS1_w0 : w.heap.size < w1.heap.size := by omega)
  (try have hS1_w1 : w.heap.size + 1 < w1.heap.size := by omega)
  (try have hS1_w2 : w.heap.size + 1 + 1 < w1.heap.size := by omega)
  (try have hS1_w3 : w.heap.size + 1 + 1 + 1 < w1.heap.size := by omega)
  (try have hS1_w4 : w.heap.size + 1 + 1 + 1 + 1 < w1.heap.size := by omega)
  (try have hL1_w0 : w.heap.size ≤ w1.heap.size := by omega)
  (try have hL1_w1 : w.heap.size + 1 ≤ w1.heap.size := by omega)
  (try have hL1_w2 : w.heap.size + 1 + 1 ≤ w1.heap.size := by omega)
  (try have hL1_w3 : w.heap.size + 1 + 1 + 1 ≤ w1.heap.size := by omega)
  (try have hL1_w : w.heap.size ≤ w1.heap.size + 1 := by omega)
  (try have hM1_1 : w.heap.size < w1.heap.size + 1 := by omega)
  (try have hM1_2 : w.heap.size < w1.heap.size + 1 + 1 := by omega)
  (try have hM1_3 : w.heap.size < w1.heap.size + 1 + 1 + 1 := by omega)
  go_wp2_with fail
  refine bodyPost_ret (v := .agg #[.int .i64 (iP p q r s), .int .i64 (iQ p q r s), .int .i64 (iR p q r s), .int .i64 (iS p q r s)]) (by go_light; simp [results, Try.results72, go_sem, *, iP, iQ, iR, iS]) rfl ⟨rfl, ?_⟩
  repeat (first | with_reducible exact Below.refl _ _ | with_reducible assumption | ((with_reducible refine blA ?_ ?_); (focus (first | omega | (simp <;> omega)))) | (with_reducible refine blD ?_) | (with_reducible refine blN ?_) | ((with_reducible refine blS ?_ ?_); (focus (first | omega | (simp <;> omega)))) | ((with_reducible refine blT (by assumption) ?_ ?_); (focus (first | omega | (simp <;> omega)))))
theorem sinv_any (p q r s : Int) (w : World) :
    Calls Try.prog 82 #[.agg #[.int .i64 p, .int .i64 q, .int .i64 r, .int .i64 s]] w fun en w' => en = .returned (.agg #[.int .i64 (iP p q r s), .int .i64 (iQ p q r s), .int .i64 (iR p q r s), .int .i64 (iS p q r s)]) ∧ Below w.heap.size w w' := by
  go_enter Try.func82, Try.ntmps82
  go_wp2_with fail
  refine (sdet_any _ _ _ _ _).mono ?_
  rintro e1 w1 ⟨rfl, hB1⟩
  obtain ⟨hC1, hF1⟩ := bcell hB1
  have hS1 := hB1.size
  (try simp at hS1)
  (try have hS1_w0 : w.heap.size < w1.heap.size := by omega)
  (try have hS1_w1 : w.heap.size + 1 < w1.heap.size := by omega)
  (try have hS1_w2 : w.heap.size + 1 + 1 < w1.heap.size := by omega)
  (try have hS1_w3 : w.heap.size + 1 + 1 + 1 < w1.heap.size := by omega)
  (try have hS1_w4 : w.heap.size + 1 + 1 + 1 + 1 < w1.heap.size := by omega)
  (try have hL1_w0 : w.heap.size ≤ w1.heap.size := by omega)
  (try have hL1_w1 : w.heap.size + 1 ≤ w1.heap.size := by omega)
  (try have hL1_w2 : w.heap.size + 1 + 1 ≤ w1.heap.size := by omega)
  (try have hL1_w3 : w.heap.size + 1 + 1 + 1 ≤ w1.heap.size := by omega)
  (try have hL1_w : w.heap.size ≤ w1.heap.size + 1 := by omega)
  (try have hM1_1 : w.heap.size < w1.heap.size + 1 := by omega)
  (try have hM1_2 : w.heap.size < w1.heap.size + 1 + 1 := by omega)
  (try have hM1_3 : w.heap.size < w1.heap.size + 1 + 1 + 1 := by omega)
  go_wp2_with fail
  refine bodyPost_ret (v := .agg #[.int .i64 (iP p q r s), .int .i64 (iQ p q r s), .int .i64 (iR p q r s), .int .i64 (iS p q r s)]) (by go_light; simp [results, Try.results82, go_sem, *, iP, iQ, iR, iS]) rfl ⟨rfl, ?_⟩
  repeat (first | with_reducible exact Below.refl _ _ | with_reducible assumption | ((with_reducible refine blA ?_ ?_); (focus (first | omega | (simp <;> omega)))) | (with_reducible refine blD ?_) | (with_reducible refine blN ?_) | ((with_reducible refine blS ?_ ?_); (focus (first | omega | (simp <;> omega)))) | ((with_reducible refine blT (by assumption) ?_ ?_); (focus (first | omega | (simp <;> omega)))))
def minB (p q r s : Int) : Bool := mB p q r s && (((dW p q r s).natAbs : Int) == 1)
theorem dW_J {p q r s : Int} (h : mB p q r s = true) : J64 (dW p q r s) := by
  obtain ⟨hp, hq, hr, hs⟩ := mB_bd h
  have h1 := mul_bd hp hs (show (1000000 : Int) * 1000000 ≤ 1000000000000 by decide)
  have h2 := mul_bd hq hr (show (1000000 : Int) * 1000000 ≤ 1000000000000 by decide)
  obtain ⟨b1, b2⟩ := h1
  obtain ⟨c1, c2⟩ := h2
  rw [dW_eq h]
  exact ⟨by omega, by omega⟩
def minV (p q r s : Int) : Value := if minB p q r s = true then .agg #[.int .i64 (iP p q r s), .int .i64 (iQ p q r s), .int .i64 (iR p q r s), .int .i64 (iS p q r s)] else .agg #[.int .i64 0, .int .i64 0, .int .i64 0, .int .i64 0]
end Go.Proofs.Ytemnkfigjpphgaa
