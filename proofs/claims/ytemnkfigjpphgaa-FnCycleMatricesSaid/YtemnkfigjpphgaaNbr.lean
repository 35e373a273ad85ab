/-
  Cyclic forms and their neighbours: two steps are a word of the river. Plain mathematics.
-/
import Derived.Test.YtemnkfigjpphgaaRiv
namespace Go.Proofs.Ytemnkfigjpphgaa
/-- A run of one letter. -/
theorem run_L : ∀ (j : Nat) (f : Fm), (∀ i : Nat, i ≤ j → 0 < f.1 + f.2.1 * i + f.2.2 * (i * i)) → rvn j f = (f.1 + f.2.1 * j + f.2.2 * (j * j), f.2.1 + 2 * f.2.2 * j, f.2.2) ∧ rm j f = (1, 0, (j : Int), 1)
  | 0, f, _ => by simp [rvn, rm, mI]
  | j + 1, f, h => by
    have h1 := h 1 (by omega)
    have hn : ¬ f.1 + f.2.1 + f.2.2 < 0 := by simp at h1; omega
    have e := rv_L hn
    have hx : rx f = mL := by unfold rx; rw [if_neg hn]
    obtain ⟨a, b⟩ := run_L j (rv f) (fun i hi => by
      have := h (i + 1) (by omega)
      rw [e]
      simp only
      have e2 : f.1 + f.2.1 + f.2.2 + (f.2.1 + 2 * f.2.2) * (i : Int) + f.2.2 * (i * i) = f.1 + f.2.1 * ((i + 1 : Nat) : Int) + f.2.2 * (((i + 1 : Nat) : Int) * ((i + 1 : Nat) : Int)) := by push_cast; grind
      rw [e2]; exact this)
    refine ⟨?_, ?_⟩
    · show rvn j (rv f) = _
      rw [a, e]
      refine Prod.ext ?_ (Prod.ext ?_ rfl) <;> simp only <;> push_cast <;> grind
    · show mm (rx f) (rm j (rv f)) = _
      rw [b, hx]
      refine Prod.ext ?_ (Prod.ext ?_ (Prod.ext ?_ ?_)) <;> simp [mm, mL] <;> omega
theorem run_R : ∀ (j : Nat) (f : Fm), (∀ i : Nat, i ≤ j → f.1 * (i * i) + f.2.1 * i + f.2.2 < 0) → rvn j f = (f.1, f.2.1 + 2 * f.1 * j, f.1 * (j * j) + f.2.1 * j + f.2.2) ∧ rm j f = (1, (j : Int), 0, 1)
  | 0, f, _ => by simp [rvn, rm, mI]
  | j + 1, f, h => by
    have h1 := h 1 (by omega)
    have hn : f.1 + f.2.1 + f.2.2 < 0 := by simp at h1; omega
    have e := rv_R hn
    have hx : rx f = mR := by unfold rx; rw [if_pos hn]
    obtain ⟨a, b⟩ := run_R j (rv f) (fun i hi => by
      have := h (i + 1) (by omega)
      rw [e]
      simp only
      have e2 : f.1 * ((i : Int) * i) + (2 * f.1 + f.2.1) * (i : Int) + (f.1 + f.2.1 + f.2.2) = f.1 * (((i + 1 : Nat) : Int) * ((i + 1 : Nat) : Int)) + f.2.1 * ((i + 1 : Nat) : Int) + f.2.2 := by push_cast; grind
      rw [e2]; exact this)
    refine ⟨?_, ?_⟩
    · show rvn j (rv f) = _
      rw [a, e]
      refine Prod.ext rfl (Prod.ext ?_ ?_) <;> simp only <;> push_cast <;> grind
    · show mm (rx f) (rm j (rv f)) = _
      rw [b, hx]
      refine Prod.ext ?_ (Prod.ext ?_ (Prod.ext ?_ ?_)) <;> simp [mm, mR] <;> omega
/-- Between two positive values of a concave sequence all are positive. -/
theorem concave {A B C : Int} (hC : C ≤ 0) {j : Nat} (h0 : 0 < A) (h1 : 0 < A + B * j + C * (j * j)) (i : Nat) (hi : i ≤ j) : 0 < A + B * i + C * (i * i) := by
  rcases Nat.eq_zero_or_pos j with hj | hj
  · obtain rfl : i = 0 := by omega
    simpa using h0
  refine Int.lt_of_not_ge fun hle => ?_
  have e : (j : Int) * (A + B * i + C * (i * i)) = ((j : Int) - i) * A + i * (A + B * j + C * (j * j)) + -C * ((j : Int) * ((i : Int) * ((j : Int) - i))) := by grind
  have k1 : 0 ≤ -C * ((j : Int) * ((i : Int) * ((j : Int) - i))) := Int.mul_nonneg (by omega) (Int.mul_nonneg (by omega) (Int.mul_nonneg (by omega) (by omega)))
  have k2 : (j : Int) * (A + B * i + C * (i * i)) ≤ 0 := Int.mul_nonpos_of_nonneg_of_nonpos (by omega) hle
  rcases Nat.lt_or_ge i j with hij | hij
  · have k3 : 0 < ((j : Int) - i) * A := Int.mul_pos (by omega) h0
    have k4 : 0 ≤ (i : Int) * (A + B * j + C * (j * j)) := Int.mul_nonneg (by omega) (by omega)
    omega
  · obtain rfl : i = j := by omega
    omega
theorem convex {A B C : Int} (hA : 0 ≤ A) {j : Nat} (h0 : C < 0) (h1 : A * (j * j) + B * j + C < 0) (i : Nat) (hi : i ≤ j) : A * (i * i) + B * i + C < 0 := by
  have := concave (A := -C) (B := -B) (C := -A) (by omega) (j := j) (by omega) (by rw [Int.neg_mul, Int.neg_mul]; omega) i hi
  rw [Int.neg_mul, Int.neg_mul] at this
  omega
/-- A cyclic form: r is the root of its discriminant. -/
structure Cy (r : Int) (f : Fm) : Prop where
  b0 : 0 < f.2.1
  br : f.2.1 ≤ r
  lo : r - f.2.1 < 2 * (f.1.natAbs : Int)
  hi : 2 * (f.1.natAbs : Int) ≤ r + f.2.1
/-- r is the root of d, which is not a square. -/
structure Rt (r d : Int) : Prop where
  r0 : 0 < r
  lo : r * r < d
  hi : d < (r + 1) * (r + 1)
theorem Rt.nsq {r d : Int} (h : Rt r d) : NSq d := by
  intro x hx
  have h0 := h.r0
  have h1 := h.lo
  have h2 := h.hi
  rw [← hx] at h1 h2
  rcases Int.le_total 0 x with hx0 | hx0
  · have a := lt_of_sq hx0 h1
    have b := lt_of_sq (by omega) h2
    omega
  · have a := lt_of_sq (a := r) (b := -x) (by omega) (by rw [Int.neg_mul_neg]; exact h1)
    have b := lt_of_sq (a := -x) (b := r + 1) (by omega) (by rw [Int.neg_mul_neg]; exact h2)
    omega
theorem sq_le {a b : Int} (ha : 0 ≤ a) (h : a ≤ b) : a * a ≤ b * b := Int.mul_le_mul h h ha (by omega)
/-- Facts of a cyclic form. -/
theorem Cy.facts {r : Int} {f : Fm} (h : Cy r f) (hr : Rt r (fdisc f)) : f.1 * f.2.2 < 0 ∧ (f.1.natAbs : Int) < f.2.2.natAbs + f.2.1 ∧ (f.2.2.natAbs : Int) < f.1.natAbs + f.2.1 ∧ 1 ≤ (f.2.2.natAbs : Int) ∧ 1 ≤ (f.1.natAbs : Int) := by
  obtain ⟨A, B, C⟩ := f
  obtain ⟨b0, br, lo, hi⟩ := h
  simp only [fdisc] at *
  have r0 := hr.r0
  have hlo := hr.lo
  have hhi := hr.hi
  have hBB := sq_le (by omega) br
  have hAC : A * C < 0 := by
    have : 4 * A * C = 4 * (A * C) := by grind
    omega
  have hA0 : A ≠ 0 := by intro e; rw [e, Int.zero_mul] at hAC; omega
  have hC0 : C ≠ 0 := by intro e; rw [e, Int.mul_zero] at hAC; omega
  have hAC2 : (A.natAbs : Int) * C.natAbs = -(A * C) := by
    rcases Int.lt_or_lt_of_ne hA0 with ha | ha
    · have hc : 0 < C := by
        refine Int.lt_of_not_ge fun hc => ?_
        have := Int.mul_nonneg_of_nonpos_of_nonpos (show A ≤ 0 by omega) hc
        omega
      rw [show (A.natAbs : Int) = -A by omega, show (C.natAbs : Int) = C by omega, Int.neg_mul]
    · have hc : C < 0 := by
        refine Int.lt_of_not_ge fun hc => ?_
        have := Int.mul_nonneg (show 0 ≤ A by omega) hc
        omega
      rw [show (A.natAbs : Int) = A by omega, show (C.natAbs : Int) = -C by omega, Int.mul_neg]
  have ha1 : 1 ≤ (A.natAbs : Int) := by omega
  have hc1 : 1 ≤ (C.natAbs : Int) := by omega
  generalize (A.natAbs : Int) = a at *
  generalize (C.natAbs : Int) = c at *
  have hd : B * B - 4 * A * C = B * B + 4 * (a * c) := by rw [hAC2]; grind
  rw [hd] at hlo hhi
  refine ⟨hAC, ?_, ?_, hc1, ha1⟩
  · -- a < c + B : (2a - B)^2 < d
    have h1 : (2 * a - B) * (2 * a - B) ≤ r * r := by
      rcases Int.le_total 0 (2 * a - B) with h | h
      · exact sq_le h (by omega)
      · have := sq_le (a := B - 2 * a) (b := r) (by omega) (by omega)
        have e : (2 * a - B) * (2 * a - B) = (B - 2 * a) * (B - 2 * a) := by grind
        omega
    have h2 : 4 * (a * (a - B)) < 4 * (a * c) := by
      have e : (2 * a - B) * (2 * a - B) = 4 * (a * (a - B)) + B * B := by grind
      omega
    have h3 : a * (a - B) < a * c := by omega
    have := Int.lt_of_mul_lt_mul_left h3 (by omega)
    omega
  · have h1 := sq_le (a := r + 1) (b := 2 * a + B) (by omega) (by omega)
    have h2 : a * c < a * (a + B) := by
      have e : (2 * a + B) * (2 * a + B) = 4 * (a * (a + B)) + B * B := by grind
      omega
    exact Int.lt_of_mul_lt_mul_left h2 (by omega)
/-- How often. -/
def nj (r : Int) (f : Fm) : Int := (r + f.2.1) / (2 * (f.2.2.natAbs : Int))
/-- The neighbour's matrix. -/
def nm (r : Int) (f : Fm) : Mt := (0, -1, 1, if f.2.2 < 0 then -nj r f else nj r f)
/-- The neighbour. -/
def nb (r : Int) (f : Fm) : Fm := fact f (nm r f)
theorem nm_det (r : Int) (f : Fm) : mdet (nm r f) = 1 := by simp [mdet, nm]
theorem nb_disc (r : Int) (f : Fm) : fdisc (nb r f) = fdisc f := by unfold nb; rw [fdisc_fact, nm_det]; omega
theorem nb_val (r : Int) (f : Fm) : nb r f = (f.2.2, 2 * (f.2.2.natAbs : Int) * nj r f - f.2.1, if f.2.2 < 0 then f.1 + f.2.1 * nj r f + f.2.2 * (nj r f * nj r f) else f.1 - f.2.1 * nj r f + f.2.2 * (nj r f * nj r f)) := by
  unfold nb nm
  by_cases h : f.2.2 < 0
  · rw [if_pos h, if_pos h, show (f.2.2.natAbs : Int) = -f.2.2 by omega]
    refine Prod.ext ?_ (Prod.ext ?_ ?_) <;> simp only [fact] <;> grind
  · rw [if_neg h, if_neg h, show (f.2.2.natAbs : Int) = f.2.2 by omega]
    refine Prod.ext ?_ (Prod.ext ?_ ?_) <;> simp only [fact] <;> grind
/-- The neighbour of a cyclic form is cyclic. -/
theorem Cy.next {r : Int} {f : Fm} (h : Cy r f) (hr : Rt r (fdisc f)) : Cy r (nb r f) ∧ 1 ≤ nj r f ∧ Rt r (fdisc (nb r f)) := by
  obtain ⟨h1, h2, h3, h4, h5⟩ := h.facts hr
  have hd : Rt r (fdisc (nb r f)) := by rw [nb_disc]; exact hr
  rw [nb_val] at hd ⊢
  obtain ⟨A, B, C⟩ := f
  obtain ⟨b0, br, lo, hi⟩ := h
  simp only [nj] at *
  have r0 := hr.r0
  -- 2c - B ≤ r and 2c + B > r
  have hBB := sq_le (by omega) br
  have hlo := hr.lo
  have hhi := hr.hi
  have hAC2 : (A.natAbs : Int) * C.natAbs = -(A * C) := by
    rw [← Int.natCast_mul, ← Int.natAbs_mul]
    omega
  simp only [fdisc] at hlo hhi
  have hd2 : B * B - 4 * A * C = B * B + 4 * ((A.natAbs : Int) * C.natAbs) := by rw [hAC2]; grind
  rw [hd2] at hlo hhi
  generalize hc : (C.natAbs : Int) = c at *
  generalize (A.natAbs : Int) = a at *
  have k1 : 2 * c - B ≤ r := by
    refine Int.le_of_not_gt fun hgt => ?_
    have e1 := sq_le (a := r + 1) (b := 2 * c - B) (by omega) (by omega)
    have e2 : (2 * c - B) * (2 * c - B) = B * B + 4 * (c * (c - B)) := by grind
    have e3 : c * (c - B) ≤ c * a := Int.mul_le_mul_of_nonneg_left (by omega) (by omega)
    have e4 : c * a = a * c := Int.mul_comm _ _
    omega
  have k2 : r + 1 ≤ 2 * c + B := by
    refine Int.le_of_not_gt fun hgt => ?_
    have e1 := sq_le (a := 2 * c + B) (b := r) (by omega) (by omega)
    have e2 : (2 * c + B) * (2 * c + B) = B * B + 4 * (c * (c + B)) := by grind
    have e3 : c * a ≤ c * (c + B) := Int.mul_le_mul_of_nonneg_left (by omega) (by omega)
    have e4 : c * a = a * c := Int.mul_comm _ _
    omega
  have hj : 1 ≤ (r + B) / (2 * c) := by
    refine Int.le_ediv_of_mul_le (by omega) (by omega)
  have hq := Int.mul_ediv_add_emod (r + B) (2 * c)
  have hm0 := Int.emod_nonneg (r + B) (show 2 * c ≠ 0 by omega)
  have hm1 := Int.emod_lt_of_pos (r + B) (show 0 < 2 * c by omega)
  generalize (r + B) / (2 * c) = j at *
  generalize (r + B) % (2 * c) = m at *
  have hjj : 2 * c * j = 2 * c + 2 * c * (j - 1) := by grind
  have hj0 : 0 ≤ 2 * c * (j - 1) := Int.mul_nonneg (by omega) (by omega)
  refine ⟨⟨?_, ?_, ?_, ?_⟩, hj, hd⟩
  · show 0 < 2 * c * j - B
    rcases (show r < 2 * c ∨ 2 * c ≤ r by omega) with h | h <;> omega
  · show 2 * c * j - B ≤ r; omega
  · show r - (2 * c * j - B) < 2 * (C.natAbs : Int); omega
  · show 2 * (C.natAbs : Int) ≤ r + (2 * c * j - B); omega
end Go.Proofs.Ytemnkfigjpphgaa
