/-
  Contracts of the functions on forms and matrices.
-/
import Derived.Test.YtdahpjbpcdfhkaaNum
namespace Go.Proofs.Ytdahpjbpcdfhkaa
open Go.RowKit
attribute [local simp, local go_sem] past_cell past_frozen past_tape
def formB (a b c : Int) : Bool := numB a && numB b && numB c
theorem formB_all (a b c : Int) : [a, b, c].all numB = formB a b c := by simp [formB, Bool.and_assoc]
theorem formB_bd {a b c : Int} (h : formB a b c = true) : Bd 1000000 a ∧ Bd 1000000 b ∧ Bd 1000000 c := by
  simp only [formB, Bool.and_eq_true] at h
  exact ⟨numB_bd h.1.1, numB_bd h.1.2, numB_bd h.2⟩
theorem nuGood_any (n : Int) (w : World) :
    Calls Try.prog 46 #[.int .i64 n] w fun e w' => e = .returned (.bool (numB n)) ∧ w = w' := by
  go_enter Try.func46, Try.ntmps46
  go_wp2_with (go_at_call 56; refine (l1In_any _ _ _ _).mono ?_; rintro e w' ⟨rfl, rfl⟩)
  go_ret
  exact ⟨rfl, rfl⟩
/-- The discriminant, as 64 bits have it. -/
def discW (a b c : Int) : Int := wrap64 (wrap64 (b * b) - wrap64 (wrap64 (4 * a) * c))
theorem discW_eq {a b c : Int} (ha : Bd 1000000 a) (hb : Bd 1000000 b) (hc : Bd 1000000 c) : discW a b c = b * b - 4 * a * c := by
  have h1 := mul_bd hb hb (show (1000000 : Int) * 1000000 ≤ 1000000000000 by decide)
  have h2 := mul_bd (show Bd 4000000 (4 * a) from ⟨by have := ha.1; omega, by have := ha.2; omega⟩) hc (show (4000000 : Int) * 1000000 ≤ 4000000000000 by decide)
  obtain ⟨a1, a2⟩ := ha
  obtain ⟨b1, b2⟩ := h1
  obtain ⟨c1, c2⟩ := h2
  unfold discW
  rw [IntWalk.wrap64_in (4 * a) ⟨by omega, by omega⟩, IntWalk.wrap64_in (b * b) ⟨by omega, by omega⟩, IntWalk.wrap64_in (4 * a * c) ⟨by omega, by omega⟩, IntWalk.wrap64_in _ ⟨by omega, by omega⟩]
/-- The value at x and y, as 64 bits have it. -/
def valW (a b c x y : Int) : Int := wrap64 (wrap64 (wrap64 (wrap64 (a * x) * x) + wrap64 (wrap64 (b * x) * y)) + wrap64 (wrap64 (c * y) * y))
/-- The polar form's value, as 64 bits have it. -/
def polW (a b c x y u v : Int) : Int := wrap64 (wrap64 (wrap64 (wrap64 (wrap64 (2 * a) * x) * u) + wrap64 (b * wrap64 (wrap64 (x * v) + wrap64 (y * u)))) + wrap64 (wrap64 (wrap64 (2 * c) * y) * v))
end Go.Proofs.Ytdahpjbpcdfhkaa
