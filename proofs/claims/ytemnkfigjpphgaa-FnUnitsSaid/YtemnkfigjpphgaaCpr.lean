/-
  The product of the steps around the cycle: what CycleProduct returns. Plain.
-/
import Derived.Test.YtemnkfigjpphgaaIcm
import Derived.Test.YtemnkfigjpphgaaUnt
namespace Go.Proofs.Ytemnkfigjpphgaa
open Go.RowKit
/-- The length of the cycle. -/
def Per (r : Int) (f : Fm) (p : Nat) : Prop := 1 ≤ p ∧ p ≤ 2100 ∧ nbn r p f = f ∧ ∀ k, 0 < k → k < p → nbn r k f ≠ f
theorem Per.unique {r : Int} {f : Fm} {p q : Nat} (h : Per r f p) (h' : Per r f q) : p = q := by
  obtain ⟨a, _, b, c⟩ := h
  obtain ⟨a', _, b', c'⟩ := h'
  rcases Nat.lt_trichotomy p q with h | h | h
  · exact absurd b (c' p (by omega) h)
  · exact h
  · exact absurd b' (c q (by omega) h)
/-- What CycleProduct returns. -/
def CPv (f : Fm) (m : Mt) (ok : Bool) : Prop :=
  ((indB f.1 f.2.1 f.2.2 = false ∨ cyB (isqrt (discW f.1 f.2.1 f.2.2)) f = false) ∧ m = (0, 0, 0, 0) ∧ ok = false) ∨
  (indB f.1 f.2.1 f.2.2 = true ∧ cyB (isqrt (discW f.1 f.2.1 f.2.2)) f = true ∧ ∃ p, Per (isqrt (discW f.1 f.2.1 f.2.2)) f p ∧
    ((ok = true ∧ m = nmn (isqrt (discW f.1 f.2.1 f.2.2)) p f ∧ ∀ j, j ≤ p → mle 1000000 (nmn (isqrt (discW f.1 f.2.1 f.2.2)) j f)) ∨
     (ok = false ∧ m = (0, 0, 0, 0) ∧ ∃ j, j ≤ p ∧ ¬ mle 1000000 (nmn (isqrt (discW f.1 f.2.1 f.2.2)) j f))))
theorem CPv.exist (f : Fm) : ∃ m ok, CPv f m ok := by
  obtain ⟨a, b, c⟩ := f
  cases hi : indB a b c with
  | false => exact ⟨_, _, .inl ⟨.inl hi, rfl, rfl⟩⟩
  | true =>
    cases hc : cyB (isqrt (discW a b c)) (a, b, c) with
    | false => exact ⟨_, _, .inl ⟨.inr hc, rfl, rfl⟩⟩
    | true =>
      have hg := ind_gd hi
      have hp : ∃ p, Per (isqrt (discW a b c)) (a, b, c) p := nbn_first (cyB_iff.1 hc) hg.root hg.r31
      obtain ⟨p, hp⟩ := hp
      by_cases h : ∃ j, j ≤ p ∧ ¬ mle 1000000 (nmn (isqrt (discW a b c)) j (a, b, c))
      · exact ⟨_, false, .inr ⟨hi, hc, p, hp, .inr ⟨rfl, rfl, h⟩⟩⟩
      · refine ⟨_, true, .inr ⟨hi, hc, p, hp, .inl ⟨rfl, rfl, fun j hj => ?_⟩⟩⟩
        by_cases hm : mle 1000000 (nmn (isqrt (discW a b c)) j (a, b, c))
        · exact hm
        · exact absurd ⟨j, hj, hm⟩ h
/-- The walk has met a product that is too large. -/
theorem CPv.big {f : Fm} {m : Mt} {ok : Bool} {r : Int} {p n : Nat} (h : CPv f m ok) (hr : isqrt (discW f.1 f.2.1 f.2.2) = r) (hi : indB f.1 f.2.1 f.2.2 = true) (hc : cyB r f = true) (hp : Per r f p) (hn : n ≤ p) (hm : ¬ mle 1000000 (nmn r n f)) : m = (0, 0, 0, 0) ∧ ok = false := by
  subst hr
  rcases h with ⟨h1, rfl, rfl⟩ | ⟨_, _, q, hq, h⟩
  · exact ⟨rfl, rfl⟩
  · obtain rfl := hp.unique hq
    rcases h with ⟨_, _, h⟩ | ⟨rfl, rfl, _⟩
    · exact absurd (h n hn) hm
    · exact ⟨rfl, rfl⟩
/-- The walk has come back. -/
theorem CPv.back {f : Fm} {m : Mt} {ok : Bool} {r : Int} {p : Nat} (h : CPv f m ok) (hr : isqrt (discW f.1 f.2.1 f.2.2) = r) (hi : indB f.1 f.2.1 f.2.2 = true) (hc : cyB r f = true) (hp : Per r f p) (hm : ∀ j, j ≤ p → mle 1000000 (nmn r j f)) : m = nmn r p f ∧ ok = true := by
  subst hr
  rcases h with ⟨h1, rfl, rfl⟩ | ⟨_, _, q, hq, h⟩
  · rcases h1 with h1 | h1
    · rw [h1] at hi; cases hi
    · rw [h1] at hc; cases hc
  · obtain rfl := hp.unique hq
    rcases h with ⟨rfl, rfl, h⟩ | ⟨rfl, rfl, j, hj, h⟩
    · exact ⟨rfl, rfl⟩
    · exact absurd (hm j hj) h
/-- What is returned does what it claims. -/
theorem CPv.good {f : Fm} {m : Mt} (h : CPv f m true) : indB f.1 f.2.1 f.2.2 = true ∧ mle 1000000 m ∧ mdet m = 1 ∧ fact f m = f ∧
    (Pri f → ∃ p U, Least (fdisc f) (2 * p + f.2.1 * U) U ∧ (m = autM f p U ∨ m = mneg (autM f p U))) := by
  obtain ⟨a, b, c⟩ := f
  rcases h with ⟨_, _, h⟩ | ⟨hi, hc, p, ⟨h1, h2, h3, h4⟩, h⟩
  · cases h
  · rcases h with ⟨_, rfl, h⟩ | ⟨h, _⟩
    · have hg := ind_gd hi
      refine ⟨hi, h p (Nat.le_refl _), nmn_det _ _ _, by rw [fact_nmn]; exact h3, fun hp => ?_⟩
      exact unit_of (cyB_iff.1 hc) hg.root hp h1 h4 h3
    · cases h
theorem dstF_le (r : Int) (y : Fm) : ∀ (n : Nat) (x : Fm), dstF r y n x ≤ n
  | 0, _ => Nat.le_refl _
  | n + 1, x => by
    show (if x = y then 0 else dstF r y n (nb r x) + 1) ≤ n + 1
    split
    · omega
    · have := dstF_le r y n (nb r x)
      omega
theorem dst_le (r : Int) (y x : Fm) : dst r y x ≤ 2200 := dstF_le _ _ _ _
/-- How far it is round the cycle, from behind the n-th step. -/
theorem per_less {r : Int} {f : Fm} {p n : Nat} (hp : Per r f p) (hn : 0 < n) (hlt : n < p) : dst r f (nbn r (n + 1) f) < dst r f (nbn r n f) := by
  obtain ⟨h1, h2, h3, h4⟩ := hp
  have h := (dst_less (r := r) (y := f) (x := nbn r n f) (i := p - n) (by rw [← nbn_add, show n + (p - n) = p by omega, h3]) (by omega) (h4 n hn hlt)).1
  rwa [← nbn_succ] at h
end Go.Proofs.Ytemnkfigjpphgaa
