/-
  Elements of ideals, and invertible ideals.
-/
import Derived.Test.YtladcjoiaoaedaaIdeal
import Derived.Test.YtladcjoiaoaedaaCont
namespace Go.Proofs.Ytladcjoiaoaedaa
open Go.RowKit
attribute [local simp, local go_sem] past_cell past_frozen past_tape
/-- An element, for a discriminant. -/
def elB (d u v : Int) : Bool := decide ((numB u = true ∧ numB v = true) ∧ (u - d * v).tmod 2 = 0)
theorem elB_bd {d u v : Int} (h : elB d u v = true) : Bd 1000000 u ∧ Bd 1000000 v := by
  have h := of_decide_eq_true h
  exact ⟨numB_bd h.1.1, numB_bd h.1.2⟩
theorem dv_bd {d v : Int} (hd : negB d = true) (hv : numB v = true) : Bd 2000000000 (d * v) := by
  obtain ⟨d1, d2, d3⟩ := negB_true hd
  exact mul_bd (show Bd 2000 d from ⟨by omega, by omega⟩) (numB_bd hv) (by decide)
/-- An element is in an ideal. -/
def ihB (e a b u v : Int) : Bool := decide (u.tmod e = 0 ∧ v.tmod e = 0 ∧ (u.tdiv e + v.tdiv e * b).tmod (2 * a) = 0)
theorem ih_eq {e a b u v : Int} (he : 1 ≤ e) (hv : v.tmod e = 0) : ihB e a b u v = decide ((u + v * b).tmod (2 * e * a) = 0) := by
  obtain ⟨v', rfl⟩ := Int.dvd_of_tmod_eq_zero hv
  unfold ihB
  rw [Int.mul_tdiv_cancel_left _ (by omega)]
  rw [decide_eq_decide]
  constructor
  · rintro ⟨h1, _, h3⟩
    obtain ⟨u', rfl⟩ := Int.dvd_of_tmod_eq_zero h1
    rw [Int.mul_tdiv_cancel_left _ (by omega)] at h3
    obtain ⟨t, ht⟩ := Int.dvd_of_tmod_eq_zero h3
    refine Int.tmod_eq_zero_of_dvd ⟨t, ?_⟩
    grind
  · intro h
    obtain ⟨t, ht⟩ := Int.dvd_of_tmod_eq_zero h
    have hu : u = e * (2 * a * t - v' * b) := by grind
    subst hu
    refine ⟨Int.tmod_eq_zero_of_dvd (Int.dvd_mul_right _ _), hv, ?_⟩
    rw [Int.mul_tdiv_cancel_left _ (by omega)]
    refine Int.tmod_eq_zero_of_dvd ⟨t, ?_⟩
    grind
def G9 (n : Int) : Prop := -1000000000 ≤ n ∧ n ≤ 1000000000
theorem ih_facts {e b u v : Int} (hu : G9 u) (hv : G9 v) (b1 : 0 ≤ b) (b2 : b ≤ 20000) : G9 (u.tdiv e) ∧ G9 (v.tdiv e) ∧ Bd 20000000000000 (v.tdiv e * b) ∧ Bd 20000000000000 (v * b) := by
  have h1 := tdiv_bd e (show Bd 1000000000 u from hu)
  have h2 := tdiv_bd e (show Bd 1000000000 v from hv)
  exact ⟨h1, h2, mul_bd h2 (show Bd 20000 b from ⟨by omega, by omega⟩) (by decide), mul_bd (show Bd 1000000000 v from hv) (show Bd 20000 b from ⟨by omega, by omega⟩) (by decide)⟩
def ivB (d e a b : Int) : Bool := idB d e a b && decide (gcd3 a b (idC d a b) = 1)
theorem idC_J {d e a b : Int} (h : idB d e a b = true) : J64 a ∧ J64 b ∧ J64 (idC d a b) := by
  obtain ⟨h0, h1, h2, h3, h4, h5, h6, h7⟩ := idB_true h
  obtain ⟨m1, m2, m3, m4⟩ := idB_facts h0 h3 h4 h5 h6
  refine ⟨⟨by omega, by omega⟩, ⟨by omega, by omega⟩, ?_⟩
  have e1 : 0 ≤ idC d a b := Int.ediv_nonneg m3 (by omega)
  have e2 : idC d a b ≤ b * b - d := Int.ediv_le_self _ m3
  exact ⟨by omega, by omega⟩
end Go.Proofs.Ytladcjoiaoaedaa
