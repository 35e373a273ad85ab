/-
  Contents of forms.
-/
import Derived.Test.YtladcjoiaoaedaaForm
namespace Go.Proofs.Ytladcjoiaoaedaa
open Go.RowKit
attribute [local simp, local go_sem] past_cell past_frozen past_tape
/-- The greatest common divisor of three integers. -/
def gcd3 (a b c : Int) : Int := (Int.gcd a (Int.gcd b c) : Int)
theorem gcd_J {a b : Int} (ha : J64 a) (hb : J64 b) : J64 (Int.gcd a b : Int) := by
  obtain ⟨a1, a2⟩ := ha
  obtain ⟨b1, b2⟩ := hb
  by_cases h : a = 0
  · subst h; rw [Int.gcd_zero_left]; exact ⟨by omega, by omega⟩
  · have := Int.gcd_le_natAbs_left b h
    exact ⟨by omega, by omega⟩
end Go.Proofs.Ytladcjoiaoaedaa
