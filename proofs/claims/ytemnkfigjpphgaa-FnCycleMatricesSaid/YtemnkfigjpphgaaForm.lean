/-
  Contracts of the functions on forms and matrices.
-/
import Derived.Test.YtemnkfigjpphgaaNum
namespace Go.Proofs.Ytemnkfigjpphgaa
open Go.RowKit
attribute [local simp, local go_sem] past_cell past_frozen past_tape
def formB (a b c : Int) : Bool := numB a && numB b && numB c
theorem formB_all (a b c : Int) : [a, b, c].all numB = formB a b c := by simp [formB, Bool.and_assoc]
theorem formB_bd {a b c : Int} (h : formB a b c = true) : Bd 1000000 a ∧ Bd 1000000 b ∧ Bd 1000000 c := by
  simp only [formB, Bool.and_eq_true] at h
  exact ⟨numB_bd h.1.1, numB_bd h.1.2, numB_bd h.2⟩
theorem IsForm_any (a b c : Int) (w : World) :
    Calls Try.prog 83 #[.agg #[.int .i64 a, .int .i64 b, .int .i64 c]] w fun e w' => e = .returned (.bool (formB a b c)) ∧ Below w.heap.size w w' := by

  go_enter Try.func83, Try.ntmps83
  go_wp2_with (go_at_call 104; refine (areNumbers_any [a, b, c] _ _ (by simp) ?hc).mono ?_)
  case hc => intro i hi; match i, hi with | 0, _ => simp [go_sem] | 1, _ => simp [go_sem] | 2, _ => simp [go_sem]
  rintro e w' ⟨rfl, rfl⟩
  go_wp2
  go_ret
  refine ⟨ret_bool (by simp [formB, Bool.and_assoc]), ?_⟩
  repeat (first | with_reducible exact Below.refl _ _ | with_reducible assumption | ((with_reducible refine blA ?_ ?_); (focus (first | omega | (simp <;> omega)))) | (with_reducible refine blD ?_) | (with_reducible refine blN ?_) | ((with_reducible refine blS ?_ ?_); (focus (first | omega | (simp <;> omega)))) | ((with_reducible refine blT (by assumption) ?_ ?_); (focus (first | omega | (simp <;> omega)))))
theorem nuGood_any (n : Int) (w : World) :
    Calls Try.prog 108 #[.int .i64 n] w fun e w' => e = .returned (.bool (numB n)) ∧ w = w' := by
  go_enter Try.func108, Try.ntmps108
  go_wp2_with (go_at_call 47; refine (l1In_any _ _ _ _).mono ?_; rintro e w' ⟨rfl, rfl⟩)
  go_ret
  exact ⟨rfl, rfl⟩
theorem foGood_any (a b c : Int) (w : World) :
    Calls Try.prog 112 #[.agg #[.int .i64 a, .int .i64 b, .int .i64 c]] w fun e w' => e = .returned (.bool (formB a b c)) ∧ Below w.heap.size w w' := by
  go_enter Try.func112, Try.ntmps112
  go_wp2_with (go_at_call 108; refine (nuGood_any _ _).mono ?_; rintro e w' ⟨rfl, rfl⟩)
  all_goals
    go_ret
    refine ⟨ret_bool ?_, ?_⟩
    · go_light; simp [formB, *]
    · repeat (first | with_reducible exact Below.refl _ _ | with_reducible assumption | ((with_reducible refine blA ?_ ?_); (focus (first | omega | (simp <;> omega)))) | (with_reducible refine blD ?_) | (with_reducible refine blN ?_) | ((with_reducible refine blS ?_ ?_); (focus (first | omega | (simp <;> omega)))) | ((with_reducible refine blT (by assumption) ?_ ?_); (focus (first | omega | (simp <;> omega)))))
/-- The discriminant, as 64 bits have it. -/
def discW (a b c : Int) : Int := wrap64 (wrap64 (b * b) - wrap64 (wrap64 (4 * a) * c))
theorem discW_eq {a b c : Int} (ha : Bd 1000000 a) (hb : Bd 1000000 b) (hc : Bd 1000000 c) : discW a b c = b * b - 4 * a * c := by
  have h1 := mul_bd hb hb (show (1000000 : Int) * 1000000 ≤ 1000000000000 by decide)
  have h2 := mul_bd (show Bd 4000000 (4 * a) from ⟨by have := ha.1; omega, by have := ha.2; omega⟩) hc (show (4000000 : Int) * 1000000 ≤ 4000000000000 by decide)
  obtain ⟨a1, a2⟩ := ha
  obtain ⟨b1, b2⟩ := h1
  obtain ⟨c1, c2⟩ := h2
  unfold discW
  rw [IntWalk.wrap64_in (4 * a) ⟨by omega, by omega⟩, IntWalk.wrap64_in (b * b) ⟨by omega, by omega⟩, IntWalk.wrap64_in (4 * a * c) ⟨by omega, by omega⟩, IntWalk.wrap64_in _ ⟨by omega, by omega⟩]
theorem disc_any (a b c : Int) (w : World) :
    Calls Try.prog 111 #[.agg #[.int .i64 a, .int .i64 b, .int .i64 c]] w fun e w' => e = .returned (.int .i64 (discW a b c)) ∧ Below w.heap.size w w' := by
  go_enter Try.func111, Try.ntmps111
  go_wp2
  go_ret
  refine ⟨rfl, ?_⟩
  repeat (first | with_reducible exact Below.refl _ _ | with_reducible assumption | ((with_reducible refine blA ?_ ?_); (focus (first | omega | (simp <;> omega)))) | (with_reducible refine blD ?_) | (with_reducible refine blN ?_) | ((with_reducible refine blS ?_ ?_); (focus (first | omega | (simp <;> omega)))) | ((with_reducible refine blT (by assumption) ?_ ?_); (focus (first | omega | (simp <;> omega)))))
theorem foDisc_any (a b c : Int) (w : World) :
    Calls Try.prog 74 #[.agg #[.int .i64 a, .int .i64 b, .int .i64 c]] w fun e w' => e = .returned (.int .i64 (discW a b c)) ∧ Below w.heap.size w w' := by
  go_enter Try.func74, Try.ntmps74
  go_wp2
  go_ret
  refine ⟨rfl, ?_⟩
  repeat (first | with_reducible exact Below.refl _ _ | with_reducible assumption | ((with_reducible refine blA ?_ ?_); (focus (first | omega | (simp <;> omega)))) | (with_reducible refine blD ?_) | (with_reducible refine blN ?_) | ((with_reducible refine blS ?_ ?_); (focus (first | omega | (simp <;> omega)))) | ((with_reducible refine blT (by assumption) ?_ ?_); (focus (first | omega | (simp <;> omega)))))
/-- The value at x and y, as 64 bits have it. -/
def valW (a b c x y : Int) : Int := wrap64 (wrap64 (wrap64 (wrap64 (a * x) * x) + wrap64 (wrap64 (b * x) * y)) + wrap64 (wrap64 (c * y) * y))
theorem at_any (a b c x y : Int) (w : World) :
    Calls Try.prog 117 #[.agg #[.int .i64 a, .int .i64 b, .int .i64 c], .int .i64 x, .int .i64 y] w fun e w' => e = .returned (.int .i64 (valW a b c x y)) ∧ Below w.heap.size w w' := by
  go_enter Try.func117, Try.ntmps117
  go_wp2
  go_ret
  refine ⟨rfl, ?_⟩
  repeat (first | with_reducible exact Below.refl _ _ | with_reducible assumption | ((with_reducible refine blA ?_ ?_); (focus (first | omega | (simp <;> omega)))) | (with_reducible refine blD ?_) | (with_reducible refine blN ?_) | ((with_reducible refine blS ?_ ?_); (focus (first | omega | (simp <;> omega)))) | ((with_reducible refine blT (by assumption) ?_ ?_); (focus (first | omega | (simp <;> omega)))))
theorem foValue_any (a b c x y : Int) (w : World) :
    Calls Try.prog 114 #[.agg #[.int .i64 a, .int .i64 b, .int .i64 c], .int .i64 x, .int .i64 y] w fun e w' => e = .returned (.int .i64 (valW a b c x y)) ∧ Below w.heap.size w w' := by
  go_enter Try.func114, Try.ntmps114
  go_wp2
  go_ret
  refine ⟨rfl, ?_⟩
  repeat (first | with_reducible exact Below.refl _ _ | with_reducible assumption | ((with_reducible refine blA ?_ ?_); (focus (first | omega | (simp <;> omega)))) | (with_reducible refine blD ?_) | (with_reducible refine blN ?_) | ((with_reducible refine blS ?_ ?_); (focus (first | omega | (simp <;> omega)))) | ((with_reducible refine blT (by assumption) ?_ ?_); (focus (first | omega | (simp <;> omega)))))
/-- The polar form's value, as 64 bits have it. -/
def polW (a b c x y u v : Int) : Int := wrap64 (wrap64 (wrap64 (wrap64 (wrap64 (2 * a) * x) * u) + wrap64 (b * wrap64 (wrap64 (x * v) + wrap64 (y * u)))) + wrap64 (wrap64 (wrap64 (2 * c) * y) * v))
theorem polar_any (a b c x y u v : Int) (w : World) :
    Calls Try.prog 118 #[.agg #[.int .i64 a, .int .i64 b, .int .i64 c], .int .i64 x, .int .i64 y, .int .i64 u, .int .i64 v] w fun e w' => e = .returned (.int .i64 (polW a b c x y u v)) ∧ Below w.heap.size w w' := by
  go_enter Try.func118, Try.ntmps118
  go_wp2
  go_ret
  refine ⟨rfl, ?_⟩
  repeat (first | with_reducible exact Below.refl _ _ | with_reducible assumption | ((with_reducible refine blA ?_ ?_); (focus (first | omega | (simp <;> omega)))) | (with_reducible refine blD ?_) | (with_reducible refine blN ?_) | ((with_reducible refine blS ?_ ?_); (focus (first | omega | (simp <;> omega)))) | ((with_reducible refine blT (by assumption) ?_ ?_); (focus (first | omega | (simp <;> omega)))))
theorem foPolar_any (a b c x y u v : Int) (w : World) :
    Calls Try.prog 115 #[.agg #[.int .i64 a, .int .i64 b, .int .i64 c], .int .i64 x, .int .i64 y, .int .i64 u, .int .i64 v] w fun e w' => e = .returned (.int .i64 (polW a b c x y u v)) ∧ Below w.heap.size w w' := by
  go_enter Try.func115, Try.ntmps115
  go_wp2
  go_ret
  refine ⟨rfl, ?_⟩
  repeat (first | with_reducible exact Below.refl _ _ | with_reducible assumption | ((with_reducible refine blA ?_ ?_); (focus (first | omega | (simp <;> omega)))) | (with_reducible refine blD ?_) | (with_reducible refine blN ?_) | ((with_reducible refine blS ?_ ?_); (focus (first | omega | (simp <;> omega)))) | ((with_reducible refine blT (by assumption) ?_ ?_); (focus (first | omega | (simp <;> omega)))))
end Go.Proofs.Ytemnkfigjpphgaa
