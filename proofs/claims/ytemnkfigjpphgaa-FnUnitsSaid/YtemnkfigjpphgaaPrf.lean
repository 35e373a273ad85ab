/-
  The principal form is reduced in two steps to a form that begins with 1. Plain mathematics, decided by the kernel.
-/
import Derived.Test.YtemnkfigjpphgaaForm
import Derived.KernelRfl
namespace Go.Proofs.Ytemnkfigjpphgaa
def prf (d : Int) : Fm := (1, d % 2, (d % 2 - d).tdiv 4)
def mlB (M : Mt) : Bool := decide ((M.1.natAbs : Int) ≤ 1000000) && (decide ((M.2.1.natAbs : Int) ≤ 1000000) && (decide ((M.2.2.1.natAbs : Int) ≤ 1000000) && decide ((M.2.2.2.natAbs : Int) ≤ 1000000)))
theorem mlB_iff {M : Mt} (h : mlB M = true) : mle 1000000 M := by
  unfold mlB at h
  simp only [Bool.and_eq_true, decide_eq_true_eq] at h
  exact h
/-- The reduction of the principal form, and what it is. -/
def prOk (r d : Int) : Bool :=
  (cyB r (prf d)) || (!cyB r (prf d) && (cyB r (nbg r (prf d)) && (decide ((nbg r (prf d)).1 = 1) && mlB (mm mI (nmg r (prf d)))))) ||
    (!cyB r (prf d) && (!cyB r (nbg r (prf d)) && (cyB r (nbg r (nbg r (prf d))) && (decide ((nbg r (nbg r (prf d))).1 = 1) && (mlB (mm mI (nmg r (prf d))) && mlB (mm (mm mI (nmg r (prf d))) (nmg r (nbg r (prf d)))))))))
def prAll : Bool := (List.range 32).all fun r => (List.range 1001).all fun d => !(decide (5 ≤ d) && decide (d % 4 ≤ 1) && decide (r * r < d) && decide (d < (r + 1) * (r + 1))) || prOk r d
set_option maxRecDepth 1000000 in
theorem prAll_true : prAll = true := by kernel_rfl
theorem prOk_of {r d : Nat} (hr : r < 32) (hd : d < 1001) (h5 : 5 ≤ d) (h4 : d % 4 ≤ 1) (h1 : r * r < d) (h2 : d < (r + 1) * (r + 1)) : prOk r d = true := by
  have h := prAll_true
  unfold prAll at h
  rw [List.all_eq_true] at h
  have k := h r (List.mem_range.2 hr)
  rw [List.all_eq_true] at k
  have q := k d (List.mem_range.2 hd)
  rw [decide_eq_true h5, decide_eq_true h4, decide_eq_true h1, decide_eq_true h2] at q
  simpa using q
theorem prf_red {r d : Int} (h : prOk r d = true) : ∃ g N, Rd r (prf d) mI g N true ∧ cyB r g = true ∧ g.1 = 1 := by
  unfold prOk at h
  simp only [Bool.or_eq_true, Bool.and_eq_true, Bool.not_eq_true', decide_eq_true_eq] at h
  rcases h with (h | ⟨h1, h2, h3, h4⟩) | ⟨h1, h2, h3, h4, h5, h6⟩
  · exact ⟨_, _, .stop h, h, rfl⟩
  · exact ⟨_, _, .next h1 (mlB_iff h4) (.stop h2), h2, h3⟩
  · exact ⟨_, _, .next h1 (mlB_iff h5) (.next h2 (mlB_iff h6) (.stop h3)), h3, h4⟩
end Go.Proofs.Ytemnkfigjpphgaa
