/-
  A moved form: its first coefficient is positive.
-/
import Derived.Test.YtahhbjjnbdggjaaDri
import Derived.Test.YtahhbjjnbdggjaaVal
namespace Go.Proofs.Ytahhbjjnbdggjaa
open Go.RowKit
attribute [local simp, local go_sem] past_cell past_frozen past_tape
theorem sq_pos' {x : Int} (h : x ≠ 0) : 1 ≤ x * x := by
  rcases Int.lt_or_gt_of_ne h with h | h
  · have := Int.mul_le_mul (a := 1) (b := 1) (c := -x) (d := -x) (by omega) (by omega) (by omega) (by omega)
    have e : -x * -x = x * x := Int.neg_mul_neg x x
    omega
  · have := Int.mul_le_mul (a := 1) (b := 1) (c := x) (d := x) (by omega) (by omega) (by omega) (by omega)
    omega
theorem sq_nn (x : Int) : 0 ≤ x * x := by
  by_cases h : x = 0
  · subst h; decide
  · have := sq_pos' h; omega
theorem moved_pos {d a b c p q r s : Int} (hf : PF d (a, b, c)) (hd : d ≤ -3) (hp : Prp 3125 p q r s) : 1 ≤ valW a b c p r := by
  obtain ⟨h1, h2, h3, h4, h5, h6, h7⟩ := hf
  simp only at h1 h2 h3 h4 h5 h6 h7
  obtain ⟨hdet, ⟨p1, p2⟩, -, ⟨r1, r2⟩, -⟩ := hp
  have hv := (val_eq (a := a) (b := b) (c := c) (x := p) (y := r) ⟨by omega, by omega⟩ ⟨by omega, by omega⟩ ⟨by omega, by omega⟩ ⟨by omega, by omega⟩ ⟨by omega, by omega⟩).2
  rw [hv]
  have e : 4 * a * (a * p * p + b * p * r + c * r * r) = (2 * a * p + b * r) * (2 * a * p + b * r) + (-d) * (r * r) := by
    rw [← h7]
    grind
  have hr0 := sq_nn r
  have hs0 := sq_nn (2 * a * p + b * r)
  have hpos : 1 ≤ (2 * a * p + b * r) * (2 * a * p + b * r) + (-d) * (r * r) := by
    by_cases hr : r = 0
    · have hp0 : p ≠ 0 := by
        intro h0
        rw [hr, h0] at hdet
        simp at hdet
      have : 2 * a * p + b * r ≠ 0 := by
        rw [hr, Int.mul_zero, Int.add_zero]
        exact Int.mul_ne_zero (by omega) hp0
      have h8 := sq_pos' this
      have h9 : 0 ≤ (-d) * (r * r) := Int.mul_nonneg (by omega) hr0
      omega
    · have h8 := sq_pos' hr
      have h9 : 3 * (r * r) ≤ (-d) * (r * r) := Int.mul_le_mul_of_nonneg_right (by omega) hr0
      omega
  rw [← e] at hpos
  rcases Int.lt_or_le 0 (a * p * p + b * p * r + c * r * r) with h | h
  · omega
  · have := Int.mul_nonpos_of_nonneg_of_nonpos (show 0 ≤ 4 * a by omega) h
    omega
end Go.Proofs.Ytahhbjjnbdggjaa
