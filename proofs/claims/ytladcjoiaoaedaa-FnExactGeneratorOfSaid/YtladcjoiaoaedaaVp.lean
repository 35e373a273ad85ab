/-
  Values of forms without overflow.
-/
import Derived.Test.YtladcjoiaoaedaaForm
namespace Go.Proofs.Ytladcjoiaoaedaa
open Go.RowKit
theorem wS {x : Int} (h : -9223372036854775808 ≤ x ∧ x ≤ 9223372036854775807) : wrap64 x = x := by unfold wrap64; omega
def K8 (n : Int) : Prop := -1000000000000000000 ≤ n ∧ n ≤ 1000000000000000000
theorem wK {x : Int} (h : K8 x) : wrap64 x = x := wS ⟨by have := h.1; omega, by have := h.2; omega⟩
theorem valW_of {a b c x y : Int} (h1 : K8 (a * x)) (h2 : K8 (a * x * x)) (h3 : K8 (b * x)) (h4 : K8 (b * x * y)) (h5 : K8 (c * y)) (h6 : K8 (c * y * y)) : valW a b c x y = a * x * x + b * x * y + c * y * y := by
  unfold valW
  rw [wK h1, wK h2, wK h3, wK h4, wK h5, wK h6]
  obtain ⟨a1, a2⟩ := h2
  obtain ⟨a3, a4⟩ := h4
  obtain ⟨a5, a6⟩ := h6
  rw [wS (x := a * x * x + b * x * y) ⟨by omega, by omega⟩]
  exact wS ⟨by omega, by omega⟩
theorem polW_of {a b c x y u v : Int} (h1 : K8 (2 * a)) (h2 : K8 (2 * a * x)) (h3 : K8 (2 * a * x * u)) (h4 : K8 (x * v)) (h5 : K8 (y * u)) (h6 : K8 (b * (x * v + y * u))) (h7 : K8 (2 * c)) (h8 : K8 (2 * c * y)) (h9 : K8 (2 * c * y * v)) :
    polW a b c x y u v = 2 * a * x * u + b * (x * v + y * u) + 2 * c * y * v := by
  unfold polW
  rw [wK h1, wK h2, wK h3, wK h4, wK h5, wK h7, wK h8, wK h9]
  obtain ⟨a1, a2⟩ := h3
  obtain ⟨a3, a4⟩ := h4
  obtain ⟨a5, a6⟩ := h5
  obtain ⟨a7, a8⟩ := h9
  rw [wS (x := x * v + y * u) ⟨by omega, by omega⟩, wK h6]
  obtain ⟨b1, b2⟩ := h6
  rw [wS (x := 2 * a * x * u + b * (x * v + y * u)) ⟨by omega, by omega⟩]
  exact wS ⟨by omega, by omega⟩
end Go.Proofs.Ytladcjoiaoaedaa
