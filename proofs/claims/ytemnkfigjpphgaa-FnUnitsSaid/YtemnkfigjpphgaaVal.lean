/-
  A form's values and its polar form at small numbers: exact, and how they hang together.
-/
import Derived.Test.YtemnkfigjpphgaaForm
namespace Go.Proofs.Ytemnkfigjpphgaa
open Go.RowKit
theorem w64 {z : Int} (h : Bd 9000000000000000000 z) : wrap64 z = z := IntWalk.wrap64_in z ⟨by have := h.1; omega, by have := h.2; omega⟩
theorem val_eq {a b c x y : Int} (ha : Bd 1000000 a) (hb : Bd 1000000 b) (hc : Bd 1000000 c) (hx : Bd 1000000 x) (hy : Bd 1000000 y) : Bd 3000000000000000000 (valW a b c x y) ∧ valW a b c x y = a * x * x + b * x * y + c * y * y := by
  have h1 := mul_bd ha hx (show (1000000 : Int) * 1000000 ≤ 1000000000000 by decide)
  have h2 := mul_bd h1 hx (show (1000000000000 : Int) * 1000000 ≤ 1000000000000000000 by decide)
  have h3 := mul_bd hb hx (show (1000000 : Int) * 1000000 ≤ 1000000000000 by decide)
  have h4 := mul_bd h3 hy (show (1000000000000 : Int) * 1000000 ≤ 1000000000000000000 by decide)
  have h5 := mul_bd hc hy (show (1000000 : Int) * 1000000 ≤ 1000000000000 by decide)
  have h6 := mul_bd h5 hy (show (1000000000000 : Int) * 1000000 ≤ 1000000000000000000 by decide)
  have e : valW a b c x y = a * x * x + b * x * y + c * y * y := by
    unfold valW
    rw [w64 (h1.mono (by decide)), w64 (h2.mono (by decide)), w64 (h3.mono (by decide)), w64 (h4.mono (by decide)), w64 (h5.mono (by decide)), w64 (h6.mono (by decide))]
    obtain ⟨u1, u2⟩ := h2
    obtain ⟨u3, u4⟩ := h4
    obtain ⟨u5, u6⟩ := h6
    rw [w64 (z := a * x * x + b * x * y) ⟨by omega, by omega⟩, w64 ⟨by omega, by omega⟩]
  refine ⟨?_, e⟩
  rw [e]
  obtain ⟨u1, u2⟩ := h2
  obtain ⟨u3, u4⟩ := h4
  obtain ⟨u5, u6⟩ := h6
  exact ⟨by omega, by omega⟩
theorem pol_eq {a b c x y u v : Int} (ha : Bd 1000000 a) (hb : Bd 1000000 b) (hc : Bd 1000000 c) (hx : Bd 1000000 x) (hy : Bd 1000000 y) (hu : Bd 1000000 u) (hv : Bd 1000000 v) : polW a b c x y u v = 2 * a * x * u + b * (x * v + y * u) + 2 * c * y * v := by
  have ha2 : Bd 2000000 (2 * a) := ⟨by have := ha.1; omega, by have := ha.2; omega⟩
  have hc2 : Bd 2000000 (2 * c) := ⟨by have := hc.1; omega, by have := hc.2; omega⟩
  have h1 := mul_bd ha2 hx (show (2000000 : Int) * 1000000 ≤ 2000000000000 by decide)
  have h2 := mul_bd h1 hu (show (2000000000000 : Int) * 1000000 ≤ 2000000000000000000 by decide)
  have h3 := mul_bd hx hv (show (1000000 : Int) * 1000000 ≤ 1000000000000 by decide)
  have h4 := mul_bd hy hu (show (1000000 : Int) * 1000000 ≤ 1000000000000 by decide)
  have h5 : Bd 2000000000000 (x * v + y * u) := ⟨by have := h3.1; have := h4.1; omega, by have := h3.2; have := h4.2; omega⟩
  have h6 := mul_bd hb h5 (show (1000000 : Int) * 2000000000000 ≤ 2000000000000000000 by decide)
  have h7 := mul_bd hc2 hy (show (2000000 : Int) * 1000000 ≤ 2000000000000 by decide)
  have h8 := mul_bd h7 hv (show (2000000000000 : Int) * 1000000 ≤ 2000000000000000000 by decide)
  unfold polW
  rw [w64 (ha2.mono (by decide)), w64 (h1.mono (by decide)), w64 (h2.mono (by decide)), w64 (h3.mono (by decide)), w64 (h4.mono (by decide)), w64 (h5.mono (by decide)), w64 (h6.mono (by decide)), w64 (hc2.mono (by decide)), w64 (h7.mono (by decide)), w64 (h8.mono (by decide))]
  obtain ⟨u1, u2⟩ := h2
  obtain ⟨u3, u4⟩ := h6
  obtain ⟨u5, u6⟩ := h8
  rw [w64 (z := 2 * a * x * u + b * (x * v + y * u)) ⟨by omega, by omega⟩, w64 ⟨by omega, by omega⟩]
theorem pol_law {a b c x y u v : Int} (ha : Bd 1000000 a) (hb : Bd 1000000 b) (hc : Bd 1000000 c) (hx : Bd 1000000 x) (hy : Bd 1000000 y) (hu : Bd 1000000 u) (hv : Bd 1000000 v) (hxu : Bd 1000000 (x + u)) (hyv : Bd 1000000 (y + v)) : valW a b c (x + u) (y + v) = wrap64 (wrap64 (valW a b c x y + valW a b c u v) + polW a b c x y u v) := by
  obtain ⟨⟨b1, b2⟩, e1⟩ := val_eq ha hb hc hx hy
  obtain ⟨⟨b3, b4⟩, e2⟩ := val_eq ha hb hc hu hv
  obtain ⟨⟨b5, b6⟩, e3⟩ := val_eq ha hb hc hxu hyv
  have e4 := pol_eq ha hb hc hx hy hu hv
  have k : valW a b c (x + u) (y + v) = valW a b c x y + valW a b c u v + polW a b c x y u v := by
    rw [e1, e2, e3, e4]
    grind
  rw [w64 (z := valW a b c x y + valW a b c u v) ⟨by omega, by omega⟩, ← k]
  exact (w64 ⟨by omega, by omega⟩).symm
end Go.Proofs.Ytemnkfigjpphgaa
