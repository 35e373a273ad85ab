/-
  IdealSum, and the walk of its law.
-/
import Derived.Test.YtladcjoiaoaedaaSumF
namespace Go.Proofs.Ytladcjoiaoaedaa
open Go.RowKit
attribute [local simp, local go_sem] past_cell past_frozen past_tape
/-- When IdealSum has an answer, and its numbers. -/
def smB (d e a b e' a' b' : Int) : Bool := idB d e a b && idB d e' a' b'
def smOk (d e a b e' a' b' : Int) : Bool := smB d e a b e' a' b' && idB d (lE (sumL e a b e' a' b')) (lA (sumL e a b e' a' b')) (lB (sumL e a b e' a' b'))
theorem sum_cells {w : World} {g : Nat} {e a b e' a' b' : Int} (h : ∀ j, j < 8 → w.cell? ⟨g, j, none⟩ = (#[.int .i64 (2 * e * a), .int .i64 0, .int .i64 (-e * b), .int .i64 e, .int .i64 (2 * e' * a'), .int .i64 0, .int .i64 (-e' * b'), .int .i64 e'] : Array Value)[j]?) :
    ∀ k, k < (sumL e a b e' a' b').length → w.cell? ⟨g, k * 2, none⟩ = some (.int .i64 (((sumL e a b e' a' b').getD k (0, 0)).1)) ∧ w.cell? ⟨g, k * 2 + 1, none⟩ = some (.int .i64 (((sumL e a b e' a' b').getD k (0, 0)).2)) := by
  intro k hk
  have hk : k < 4 := hk
  rw [h _ (by omega), h _ (by omega)]
  match k, hk with
  | 0, _ => exact ⟨rfl, rfl⟩
  | 1, _ => exact ⟨rfl, rfl⟩
  | 2, _ => exact ⟨rfl, rfl⟩
  | 3, _ => exact ⟨rfl, rfl⟩
end Go.Proofs.Ytladcjoiaoaedaa
