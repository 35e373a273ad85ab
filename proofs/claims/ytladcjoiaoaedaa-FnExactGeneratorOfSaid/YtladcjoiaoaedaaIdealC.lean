/-
  An ideal that contains another one: ContainsIdeal, and the walk of its law.
-/
import Derived.Test.YtladcjoiaoaedaaIdealH
namespace Go.Proofs.Ytladcjoiaoaedaa
open Go.RowKit
attribute [local simp, local go_sem] past_cell past_frozen past_tape
theorem ib_facts {d e a b : Int} (h : idB d e a b = true) : Bd 200000000 (2 * e * a) ∧ Bd 200000000 (-e * b) ∧ 1 ≤ e ∧ e ≤ 10000 := by
  obtain ⟨h0, h1, h2, h3, h4, h5, h6, h7⟩ := idB_true h
  exact ⟨mul_bd (show Bd 20000 (2 * e) from ⟨by omega, by omega⟩) (show Bd 10000 a from ⟨by omega, by omega⟩) (by decide), mul_bd (show Bd 10000 (-e) from ⟨by omega, by omega⟩) (show Bd 20000 b from ⟨by omega, by omega⟩) (by decide), h1, h2⟩
def BasisPost (w : World) (T : TypeId) (e a b : Int) (en : Ending) (w' : World) : Prop := ∃ w1, Below w.heap.size w w1 ∧ en = .returned (.slice (some ⟨w1.heap.size, 0, none⟩) 2 2) ∧ w1.alloc (.cells #[.int .i64 (2 * e * a), .int .i64 0, .int .i64 (-e * b), .int .i64 e] T) = w'
theorem idBasis_any (d e a b : Int) (w : World) (h : idB d e a b = true) :
    Calls Try.prog 75 #[.agg #[.int .i64 e, .int .i64 a, .int .i64 b]] w (BasisPost w 62 e a b) := by
  obtain ⟨⟨m1, m2⟩, ⟨m3, m4⟩, m5, m6⟩ := ib_facts h
  go_enter Try.func75, Try.ntmps75
  go_wp2
  go_ret
  refine ⟨w.alloc (.cells #[.int .i64 e, .int .i64 a, .int .i64 b] 34), ?_, by simp, rfl⟩
  repeat (first | with_reducible exact Below.refl _ _ | with_reducible assumption | ((with_reducible refine blA ?_ ?_); (focus (first | omega | (simp <;> omega)))) | (with_reducible refine blD ?_) | (with_reducible refine blN ?_) | ((with_reducible refine blS ?_ ?_); (focus (first | omega | (simp <;> omega)))) | ((with_reducible refine blT (by assumption) ?_ ?_); (focus (first | omega | (simp <;> omega)))))
def ciB (d e a b e' a' b' : Int) : Bool := (idB d e a b && idB d e' a' b') && (ihB e a b (2 * e' * a') 0 && ihB e a b (-e' * b') e')
theorem ci_G9 {d e' a' b' : Int} (h : idB d e' a' b' = true) : G9 (2 * e' * a') ∧ G9 0 ∧ G9 (-e' * b') ∧ G9 e' := by
  obtain ⟨⟨m1, m2⟩, ⟨m3, m4⟩, m5, m6⟩ := ib_facts h
  exact ⟨⟨by omega, by omega⟩, ⟨by omega, by omega⟩, ⟨by omega, by omega⟩, ⟨by omega, by omega⟩⟩
end Go.Proofs.Ytladcjoiaoaedaa
