/-
  Cyclic forms and their neighbours: two steps are a word of the river. Plain mathematics.
-/
import Derived.Test.YtemnkfigjpphgaaRiv
namespace Go.Proofs.Ytemnkfigjpphgaa
/-- A run of one letter. -/
theorem run_L : ∀ (j : Nat) (f : Fm), (∀ i : Nat, i ≤ j → 0 < f.1 + f.2.1 * i + f.2.2 * (i * i)) → rvn j f = (f.1 + f.2.1 * j + f.2.2 * (j * j), f.2.1 + 2 * f.2.2 * j, f.2.2) ∧ rm j f = (1, 0, (j : Int), 1)
  | 0, f, _ => by simp [rvn, rm, mI]
  | j + 1, f, h => by
    have h1 := h 1 (by omega)
    have hn : ¬ f.1 + f.2.1 + f.2.2 < 0 := by simp at h1; omega
    have e := rv_L hn
    have hx : rx f = mL := by unfold rx; rw [if_neg hn]
    obtain ⟨a, b⟩ := run_L j (rv f) (fun i hi => by
      have := h (i + 1) (by omega)
      rw [e]
      simp only
      have e2 : f.1 + f.2.1 + f.2.2 + (f.2.1 + 2 * f.2.2) * (i : Int) + f.2.2 * (i * i) = f.1 + f.2.1 * ((i + 1 : Nat) : Int) + f.2.2 * (((i + 1 : Nat) : Int) * ((i + 1 : Nat) : Int)) := by push_cast; grind
      rw [e2]; exact this)
    refine ⟨?_, ?_⟩
    · show rvn j (rv f) = _
      rw [a, e]
      refine Prod.ext ?_ (Prod.ext ?_ rfl) <;> simp only <;> push_cast <;> grind
    · show mm (rx f) (rm j (rv f)) = _
      rw [b, hx]
      refine Prod.ext ?_ (Prod.ext ?_ (Prod.ext ?_ ?_)) <;> simp [mm, mL] <;> omega
theorem run_R : ∀ (j : Nat) (f : Fm), (∀ i : Nat, i ≤ j → f.1 * (i * i) + f.2.1 * i + f.2.2 < 0) → rvn j f = (f.1, f.2.1 + 2 * f.1 * j, f.1 * (j * j) + f.2.1 * j + f.2.2) ∧ rm j f = (1, (j : Int), 0, 1)
  | 0, f, _ => by simp [rvn, rm, mI]
  | j + 1, f, h => by
    have h1 := h 1 (by omega)
    have hn : f.1 + f.2.1 + f.2.2 < 0 := by simp at h1; omega
    have e := rv_R hn
    have hx : rx f = mR := by unfold rx; rw [if_pos hn]
    obtain ⟨a, b⟩ := run_R j (rv f) (fun i hi => by
      have := h (i + 1) (by omega)
      rw [e]
      simp only
      have e2 : f.1 * ((i : Int) * i) + (2 * f.1 + f.2.1) * (i : Int) + (f.1 + f.2.1 + f.2.2) = f.1 * (((i + 1 : Nat) : Int) * ((i + 1 : Nat) : Int)) + f.2.1 * ((i + 1 : Nat) : Int) + f.2.2 := by push_cast; grind
      rw [e2]; exact this)
    refine ⟨?_, ?_⟩
    · show rvn j (rv f) = _
      rw [a, e]
      refine Prod.ext rfl (Prod.ext ?_ ?_) <;> simp only <;> push_cast <;> grind
    · show mm (rx f) (rm j (rv f)) = _
      rw [b, hx]
      refine Prod.ext ?_ (Prod.ext ?_ (Prod.ext ?_ ?_)) <;> simp [mm, mR] <;> omega
/-- Between two positive values of a concave sequence all are positive. -/
theorem concave {A B C : Int} (hC : C ≤ 0) {j : Nat} (h0 : 0 < A) (h1 : 0 < A + B * j + C * (j * j)) (i : Nat) (hi : i ≤ j) : 0 < A + B * i + C * (i * i) := by
  rcases Nat.eq_zero_or_pos j with hj | hj
  · obtain rfl : i = 0 := by omega
    simpa using h0
  refine Int.lt_of_not_ge fun hle => ?_
  have e : (j : Int) * (A + B * i + C * (i * i)) = ((j : Int) - i) * A + i * (A + B * j + C * (j * j)) + -C * ((j : Int) * ((i : Int) * ((j : Int) - i))) := by grind
  have k1 : 0 ≤ -C * ((j : Int) * ((i : Int) * ((j : Int) - i))) := Int.mul_nonneg (by omega) (Int.mul_nonneg (by omega) (Int.mul_nonneg (by omega) (by omega)))
  have k2 : (j : Int) * (A + B * i + C * (i * i)) ≤ 0 := Int.mul_nonpos_of_nonneg_of_nonpos (by omega) hle
  rcases Nat.lt_or_ge i j with hij | hij
  · have k3 : 0 < ((j : Int) - i) * A := Int.mul_pos (by omega) h0
    have k4 : 0 ≤ (i : Int) * (A + B * j + C * (j * j)) := Int.mul_nonneg (by omega) (by omega)
    omega
  · obtain rfl : i = j := by omega
    omega
theorem convex {A B C : Int} (hA : 0 ≤ A) {j : Nat} (h0 : C < 0) (h1 : A * (j * j) + B * j + C < 0) (i : Nat) (hi : i ≤ j) : A * (i * i) + B * i + C < 0 := by
  have := concave (A := -C) (B := -B) (C := -A) (by omega) (j := j) (by omega) (by rw [Int.neg_mul, Int.neg_mul]; omega) i hi
  rw [Int.neg_mul, Int.neg_mul] at this
  omega
/-- A cyclic form: r is the root of its discriminant. -/
structure Cy (r : Int) (f : Fm) : Prop where
  b0 : 0 < f.2.1
  br : f.2.1 ≤ r
  lo : r - f.2.1 < 2 * (f.1.natAbs : Int)
  hi : 2 * (f.1.natAbs : Int) ≤ r + f.2.1
/-- r is the root of d, which is not a square. -/
structure Rt (r d : Int) : Prop where
  r0 : 0 < r
  lo : r * r < d
  hi : d < (r + 1) * (r + 1)
theorem Rt.nsq {r d : Int} (h : Rt r d) : NSq d := by
  intro x hx
  have h0 := h.r0
  have h1 := h.lo
  have h2 := h.hi
  rw [← hx] at h1 h2
  rcases Int.le_total 0 x with hx0 | hx0
  · have a := lt_of_sq hx0 h1
    have b := lt_of_sq (by omega) h2
    omega
  · have a := lt_of_sq (a := r) (b := -x) (by omega) (by rw [Int.neg_mul_neg]; exact h1)
    have b := lt_of_sq (a := -x) (b := r + 1) (by omega) (by rw [Int.neg_mul_neg]; exact h2)
    omega
theorem sq_le {a b : Int} (ha : 0 ≤ a) (h : a ≤ b) : a * a ≤ b * b := Int.mul_le_mul h h ha (by omega)
/-- Facts of a cyclic form. -/
theorem Cy.facts {r : Int} {f : Fm} (h : Cy r f) (hr : Rt r (fdisc f)) : f.1 * f.2.2 < 0 ∧ (f.1.natAbs : Int) < f.2.2.natAbs + f.2.1 ∧ (f.2.2.natAbs : Int) < f.1.natAbs + f.2.1 ∧ 1 ≤ (f.2.2.natAbs : Int) ∧ 1 ≤ (f.1.natAbs : Int) := by
  obtain ⟨A, B, C⟩ := f
  obtain ⟨b0, br, lo, hi⟩ := h
  simp only [fdisc] at *
  have r0 := hr.r0
  have hlo := hr.lo
  have hhi := hr.hi
  have hBB := sq_le (by omega) br
  have hAC : A * C < 0 := by
    have : 4 * A * C = 4 * (A * C) := by grind
    omega
  have hA0 : A ≠ 0 := by intro e; rw [e, Int.zero_mul] at hAC; omega
  have hC0 : C ≠ 0 := by intro e; rw [e, Int.mul_zero] at hAC; omega
  have hAC2 : (A.natAbs : Int) * C.natAbs = -(A * C) := by
    rcases Int.lt_or_lt_of_ne hA0 with ha | ha
    · have hc : 0 < C := by
        refine Int.lt_of_not_ge fun hc => ?_
        have := Int.mul_nonneg_of_nonpos_of_nonpos (show A ≤ 0 by omega) hc
        omega
      rw [show (A.natAbs : Int) = -A by omega, show (C.natAbs : Int) = C by omega, Int.neg_mul]
    · have hc : C < 0 := by
        refine Int.lt_of_not_ge fun hc => ?_
        have := Int.mul_nonneg (show 0 ≤ A by omega) hc
        omega
      rw [show (A.natAbs : Int) = A by omega, show (C.natAbs : Int) = -C by omega, Int.mul_neg]
  have ha1 : 1 ≤ (A.natAbs : Int) := by omega
  have hc1 : 1 ≤ (C.natAbs : Int) := by omega
  generalize (A.natAbs : Int) = a at *
  generalize (C.natAbs : Int) = c at *
  have hd : B * B - 4 * A * C = B * B + 4 * (a * c) := by rw [hAC2]; grind
  rw [hd] at hlo hhi
  refine ⟨hAC, ?_, ?_, hc1, ha1⟩
  · -- a < c + B : (2a - B)^2 < d
    have h1 : (2 * a - B) * (2 * a - B) ≤ r * r := by
      rcases Int.le_total 0 (2 * a - B) with h | h
      · exact sq_le h (by omega)
      · have := sq_le (a := B - 2 * a) (b := r) (by omega) (by omega)
        have e : (2 * a - B) * (2 * a - B) = (B - 2 * a) * (B - 2 * a) := by grind
        omega
    have h2 : 4 * (a * (a - B)) < 4 * (a * c) := by
      have e : (2 * a - B) * (2 * a - B) = 4 * (a * (a - B)) + B * B := by grind
      omega
    have h3 : a * (a - B) < a * c := by omega
    have := Int.lt_of_mul_lt_mul_left h3 (by omega)
    omega
  · have h1 := sq_le (a := r + 1) (b := 2 * a + B) (by omega) (by omega)
    have h2 : a * c < a * (a + B) := by
      have e : (2 * a + B) * (2 * a + B) = 4 * (a * (a + B)) + B * B := by grind
      omega
    exact Int.lt_of_mul_lt_mul_left h2 (by omega)
/-- How often. -/
def nj (r : Int) (f : Fm) : Int := (r + f.2.1) / (2 * (f.2.2.natAbs : Int))
/-- The neighbour's matrix. -/
def nm (r : Int) (f : Fm) : Mt := (0, -1, 1, if f.2.2 < 0 then -nj r f else nj r f)
/-- The neighbour. -/
def nb (r : Int) (f : Fm) : Fm := fact f (nm r f)
theorem nm_det (r : Int) (f : Fm) : mdet (nm r f) = 1 := by simp [mdet, nm]
theorem nb_disc (r : Int) (f : Fm) : fdisc (nb r f) = fdisc f := by unfold nb; rw [fdisc_fact, nm_det]; omega
theorem nb_val (r : Int) (f : Fm) : nb r f = (f.2.2, 2 * (f.2.2.natAbs : Int) * nj r f - f.2.1, if f.2.2 < 0 then f.1 + f.2.1 * nj r f + f.2.2 * (nj r f * nj r f) else f.1 - f.2.1 * nj r f + f.2.2 * (nj r f * nj r f)) := by
  unfold nb nm
  by_cases h : f.2.2 < 0
  · rw [if_pos h, if_pos h, show (f.2.2.natAbs : Int) = -f.2.2 by omega]
    refine Prod.ext ?_ (Prod.ext ?_ ?_) <;> simp only [fact] <;> grind
  · rw [if_neg h, if_neg h, show (f.2.2.natAbs : Int) = f.2.2 by omega]
    refine Prod.ext ?_ (Prod.ext ?_ ?_) <;> simp only [fact] <;> grind
/-- The neighbour of a cyclic form is cyclic. -/
theorem Cy.next {r : Int} {f : Fm} (h : Cy r f) (hr : Rt r (fdisc f)) : Cy r (nb r f) ∧ 1 ≤ nj r f ∧ Rt r (fdisc (nb r f)) := by
  obtain ⟨h1, h2, h3, h4, h5⟩ := h.facts hr
  have hd : Rt r (fdisc (nb r f)) := by rw [nb_disc]; exact hr
  rw [nb_val] at hd ⊢
  obtain ⟨A, B, C⟩ := f
  obtain ⟨b0, br, lo, hi⟩ := h
  simp only [nj] at *
  have r0 := hr.r0
  -- 2c - B ≤ r and 2c + B > r
  have hBB := sq_le (by omega) br
  have hlo := hr.lo
  have hhi := hr.hi
  have hAC2 : (A.natAbs : Int) * C.natAbs = -(A * C) := by
    rw [← Int.natCast_mul, ← Int.natAbs_mul]
    omega
  simp only [fdisc] at hlo hhi
  have hd2 : B * B - 4 * A * C = B * B + 4 * ((A.natAbs : Int) * C.natAbs) := by rw [hAC2]; grind
  rw [hd2] at hlo hhi
  generalize hc : (C.natAbs : Int) = c at *
  generalize (A.natAbs : Int) = a at *
  have k1 : 2 * c - B ≤ r := by
    refine Int.le_of_not_gt fun hgt => ?_
    have e1 := sq_le (a := r + 1) (b := 2 * c - B) (by omega) (by omega)
    have e2 : (2 * c - B) * (2 * c - B) = B * B + 4 * (c * (c - B)) := by grind
    have e3 : c * (c - B) ≤ c * a := Int.mul_le_mul_of_nonneg_left (by omega) (by omega)
    have e4 : c * a = a * c := Int.mul_comm _ _
    omega
  have k2 : r + 1 ≤ 2 * c + B := by
    refine Int.le_of_not_gt fun hgt => ?_
    have e1 := sq_le (a := 2 * c + B) (b := r) (by omega) (by omega)
    have e2 : (2 * c + B) * (2 * c + B) = B * B + 4 * (c * (c + B)) := by grind
    have e3 : c * a ≤ c * (c + B) := Int.mul_le_mul_of_nonneg_left (by omega) (by omega)
    have e4 : c * a = a * c := Int.mul_comm _ _
    omega
  have hj : 1 ≤ (r + B) / (2 * c) := by
    refine Int.le_ediv_of_mul_le (by omega) (by omega)
  have hq := Int.mul_ediv_add_emod (r + B) (2 * c)
  have hm0 := Int.emod_nonneg (r + B) (show 2 * c ≠ 0 by omega)
  have hm1 := Int.emod_lt_of_pos (r + B) (show 0 < 2 * c by omega)
  generalize (r + B) / (2 * c) = j at *
  generalize (r + B) % (2 * c) = m at *
  have hjj : 2 * c * j = 2 * c + 2 * c * (j - 1) := by grind
  have hj0 : 0 ≤ 2 * c * (j - 1) := Int.mul_nonneg (by omega) (by omega)
  refine ⟨⟨?_, ?_, ?_, ?_⟩, hj, hd⟩
  · show 0 < 2 * c * j - B
    rcases (show r < 2 * c ∨ 2 * c ≤ r by omega) with h | h <;> omega
  · show 2 * c * j - B ≤ r; omega
  · show r - (2 * c * j - B) < 2 * (C.natAbs : Int); omega
  · show 2 * (C.natAbs : Int) ≤ r + (2 * c * j - B); omega
end Go.Proofs.Ytemnkfigjpphgaa

/-
  Cycles of forms are first returns of the river; the least solution. Plain mathematics.
-/
namespace Go.Proofs.Ytemnkfigjpphgaa
/-- Along a cycle the outer signs alternate. -/
theorem Cy.rv {r : Int} {f : Fm} (h : Cy r f) (hr : Rt r (fdisc f)) (ha : 0 < f.1) : Rv f := by
  obtain ⟨h1, _⟩ := h.facts hr
  refine ⟨ha, ?_, hr.nsq⟩
  refine Int.lt_of_not_ge fun hc => ?_
  have := Int.mul_nonneg (show 0 ≤ f.1 by omega) hc
  omega
theorem Cy.side {r : Int} {f : Fm} (h : Cy r f) (hr : Rt r (fdisc f)) (ha : 0 < f.1) : f.2.2 < 0 ∧ 0 < f.1 + f.2.1 + f.2.2 ∧ f.1 - f.2.1 + f.2.2 < 0 := by
  obtain ⟨h1, h2, h3, h4, h5⟩ := h.facts hr
  have hc := (h.rv hr ha).c
  refine ⟨hc, by omega, by omega⟩
/-- The first of two steps. -/
theorem step_one {r : Int} {f : Fm} (h : Cy r f) (hr : Rt r (fdisc f)) (ha : 0 < f.1) :
    rvn (nj r f).toNat f = ((nb r f).2.2, -(nb r f).2.1, (nb r f).1) ∧ rm (nj r f).toNat f = (1, 0, nj r f, 1) ∧ (∀ i, 1 ≤ i → i ≤ (nj r f).toNat → 0 < (rvn i f).1 - (rvn i f).2.1 + (rvn i f).2.2) := by
  obtain ⟨hn, hj, hrn⟩ := h.next hr
  obtain ⟨hc, hs1, hs2⟩ := h.side hr ha
  obtain ⟨g1, _⟩ := hn.facts hrn
  rw [nb_val, if_pos hc] at g1 ⊢
  obtain ⟨A, B, C⟩ := f
  simp only at *
  generalize nj r (A, B, C) = j at *
  obtain ⟨n, rfl⟩ : ∃ n : Nat, j = n := ⟨j.toNat, by omega⟩
  rw [show ((n : Int)).toNat = n by omega]
  have hend : 0 < A + B * n + C * ((n : Int) * n) := by
    refine Int.lt_of_not_ge fun hle => ?_
    have := Int.mul_nonneg_of_nonpos_of_nonpos (show C ≤ 0 by omega) hle
    omega
  have hall := fun i hi => concave (show C ≤ 0 by omega) ha hend i hi
  obtain ⟨e1, e2⟩ := run_L n (A, B, C) hall
  refine ⟨?_, e2, ?_⟩
  · rw [e1]
    refine Prod.ext rfl (Prod.ext ?_ rfl)
    show B + 2 * C * (n : Int) = -(2 * (C.natAbs : Int) * n - B)
    rw [show (C.natAbs : Int) = -C by omega]
    grind
  · intro i hi1 hi2
    obtain ⟨e3, _⟩ := run_L i (A, B, C) (fun k hk => hall k (by omega))
    rw [e3]
    have := hall (i - 1) (by omega)
    simp only at this ⊢
    have hcast : ((i - 1 : Nat) : Int) = (i : Int) - 1 := by omega
    rw [hcast] at this
    have e4 : A + B * (i : Int) + C * ((i : Int) * i) - (B + 2 * C * (i : Int)) + C = A + B * ((i : Int) - 1) + C * (((i : Int) - 1) * ((i : Int) - 1)) := by grind
    rw [e4]; exact this
/-- The second. -/
theorem step_two {r : Int} {g : Fm} (h : Cy r g) (hr : Rt r (fdisc g)) (ha : g.1 < 0) :
    rvn (nj r g).toNat (g.2.2, -g.2.1, g.1) = nb r g ∧ rm (nj r g).toNat (g.2.2, -g.2.1, g.1) = (1, nj r g, 0, 1) ∧ (∀ i, i < (nj r g).toNat → (rvn i (g.2.2, -g.2.1, g.1)).1 + (rvn i (g.2.2, -g.2.1, g.1)).2.1 + (rvn i (g.2.2, -g.2.1, g.1)).2.2 < 0) ∧ 0 < (nb r g).1 := by
  obtain ⟨hn, hj, hrn⟩ := h.next hr
  obtain ⟨h1, h2, h3, h4, h5⟩ := h.facts hr
  obtain ⟨g1, _⟩ := hn.facts hrn
  have hc : 0 < g.2.2 := by
    refine Int.lt_of_not_ge fun hle => ?_
    have := Int.mul_nonneg_of_nonpos_of_nonpos (show g.1 ≤ 0 by omega) hle
    omega
  rw [nb_val, if_neg (by omega)] at g1 ⊢
  obtain ⟨A, B, C⟩ := g
  simp only at *
  generalize nj r (A, B, C) = j at *
  obtain ⟨n, rfl⟩ : ∃ n : Nat, j = n := ⟨j.toNat, by omega⟩
  rw [show ((n : Int)).toNat = n by omega]
  have hend : C * ((n : Int) * n) + -B * n + A < 0 := by
    refine Int.lt_of_not_ge fun hle => ?_
    have := Int.mul_nonneg (show 0 ≤ C by omega) hle
    have e : A - B * (n : Int) + C * ((n : Int) * n) = C * ((n : Int) * n) + -B * n + A := by grind
    rw [e] at g1
    omega
  have hall := fun i hi => convex (show 0 ≤ C by omega) ha hend i hi
  obtain ⟨e1, e2⟩ := run_R n (C, -B, A) hall
  refine ⟨?_, e2, ?_, hc⟩
  · rw [e1]
    refine Prod.ext rfl (Prod.ext ?_ ?_)
    · show -B + 2 * C * (n : Int) = 2 * (C.natAbs : Int) * n - B
      rw [show (C.natAbs : Int) = C by omega]
      omega
    · show C * ((n : Int) * n) + -B * n + A = A - B * n + C * ((n : Int) * n)
      grind
  · intro i hi
    obtain ⟨e3, _⟩ := run_R i (C, -B, A) (fun k hk => hall k (by omega))
    rw [e3]
    have := hall (i + 1) (by omega)
    simp only at this ⊢
    push_cast at this
    have e4 : C + (-B + 2 * C * (i : Int)) + (C * ((i : Int) * i) + -B * i + A) = C * (((i : Int) + 1) * ((i : Int) + 1)) + -B * ((i : Int) + 1) + A := by grind
    rw [e4]; exact this
/-- Neighbours, many. -/
def nbn (r : Int) : Nat → Fm → Fm
  | 0, f => f
  | n + 1, f => nbn r n (nb r f)
def nmn (r : Int) : Nat → Fm → Mt
  | 0, _ => mI
  | n + 1, f => mm (nm r f) (nmn r n (nb r f))
theorem nbn_add (r : Int) : ∀ (m n : Nat) (f : Fm), nbn r (m + n) f = nbn r n (nbn r m f)
  | 0, n, f => by rw [Nat.zero_add]; rfl
  | m + 1, n, f => by rw [show m + 1 + n = (m + n) + 1 by omega]; exact nbn_add r m n (nb r f)
theorem nmn_add (r : Int) : ∀ (m n : Nat) (f : Fm), nmn r (m + n) f = mm (nmn r m f) (nmn r n (nbn r m f))
  | 0, n, f => by rw [Nat.zero_add]; exact (one_mm _).symm
  | m + 1, n, f => by
    rw [show m + 1 + n = (m + n) + 1 by omega]
    show mm (nm r f) (nmn r (m + n) (nb r f)) = mm (mm (nm r f) (nmn r m (nb r f))) (nmn r n (nbn r m (nb r f)))
    rw [nmn_add r m n (nb r f), mm_assoc]
theorem nbn_succ (r : Int) (n : Nat) (f : Fm) : nbn r (n + 1) f = nb r (nbn r n f) := nbn_add r n 1 f
theorem nmn_succ (r : Int) (n : Nat) (f : Fm) : nmn r (n + 1) f = mm (nmn r n f) (nm r (nbn r n f)) := by
  rw [nmn_add r n 1 f]
  show mm _ (mm (nm r (nbn r n f)) mI) = _
  rw [mm_one]
theorem fact_nmn (r : Int) : ∀ (n : Nat) (f : Fm), fact f (nmn r n f) = nbn r n f
  | 0, f => fact_one f
  | n + 1, f => by
    show fact f (mm (nm r f) (nmn r n (nb r f))) = _
    rw [fact_mm]
    exact fact_nmn r n (nb r f)
theorem nmn_det (r : Int) : ∀ (n : Nat) (f : Fm), mdet (nmn r n f) = 1
  | 0, _ => rfl
  | n + 1, f => by
    show mdet (mm (nm r f) (nmn r n (nb r f))) = 1
    rw [mdet_mm, nm_det, nmn_det r n]; rfl
theorem Cy.nth {r : Int} {f : Fm} : ∀ (n : Nat) (_ : Cy r f) (_ : Rt r (fdisc f)), Cy r (nbn r n f) ∧ Rt r (fdisc (nbn r n f))
  | 0, h, hr => ⟨h, hr⟩
  | n + 1, h, hr => by
    obtain ⟨a, _, b⟩ := h.next hr
    exact Cy.nth n a b
/-- The sign of the outer coefficients. -/
theorem sign_next {r : Int} {f : Fm} (h : Cy r f) (hr : Rt r (fdisc f)) : (0 < f.1 → (nb r f).1 < 0) ∧ (f.1 < 0 → 0 < (nb r f).1) := by
  obtain ⟨h1, _⟩ := h.facts hr
  rw [nb_val]
  simp only
  refine ⟨fun ha => ?_, fun ha => ?_⟩
  · refine Int.lt_of_not_ge fun hc => ?_
    have := Int.mul_nonneg (show 0 ≤ f.1 by omega) hc
    omega
  · refine Int.lt_of_not_ge fun hc => ?_
    have := Int.mul_nonneg_of_nonpos_of_nonpos (show f.1 ≤ 0 by omega) hc
    omega
/-- The letters of so many double steps. -/
def lt2 (r : Int) (f : Fm) : Nat := (nj r f).toNat + (nj r (nb r f)).toNat
def lts (r : Int) : Nat → Fm → Nat
  | 0, _ => 0
  | n + 1, f => lt2 r f + lts r n (nbn r 2 f)
theorem double {r : Int} {f : Fm} (h : Cy r f) (hr : Rt r (fdisc f)) (ha : 0 < f.1) :
    rvn (lt2 r f) f = nbn r 2 f ∧ nmn r 2 f = mneg (rm (lt2 r f) f) ∧ 0 < (nbn r 2 f).1 ∧ 2 ≤ lt2 r f ∧ (∀ i, 0 < i → i < lt2 r f → ¬ (Cy r (rvn i f))) := by
  obtain ⟨hn, hj, hrn⟩ := h.next hr
  obtain ⟨a1, a2, a3⟩ := step_one h hr ha
  have hs := (sign_next h hr).1 ha
  obtain ⟨b1, b2, b3, b4⟩ := step_two hn hrn hs
  obtain ⟨_, hj2, _⟩ := hn.next hrn
  have e1 : rvn (lt2 r f) f = nbn r 2 f := by
    unfold lt2
    rw [rvn_add, a1, b1]
    rfl
  refine ⟨e1, ?_, b4, by unfold lt2; omega, ?_⟩
  · unfold lt2
    rw [rm_add, a2, a1, b2]
    show mm (nm r f) (mm (nm r (nb r f)) mI) = _
    rw [mm_one]
    obtain ⟨hc, _⟩ := h.side hr ha
    have hnc : ¬ (nb r f).2.2 < 0 := by
      obtain ⟨g1, _⟩ := hn.facts hrn
      intro hlt
      have := Int.mul_nonneg_of_nonpos_of_nonpos (show (nb r f).1 ≤ 0 by omega) (show (nb r f).2.2 ≤ 0 by omega)
      omega
    unfold nm
    rw [if_pos hc, if_neg hnc]
    refine Prod.ext ?_ (Prod.ext ?_ (Prod.ext ?_ ?_)) <;> simp only [mm, mneg] <;> grind
  · intro i h0 hi hcy
    have hri : Rt r (fdisc (rvn i f)) := by
      rw [← fact_rm, fdisc_fact, (rm_nn i f).d]
      simpa using hr
    obtain ⟨s1, s2, s3⟩ := hcy.side hri ((h.rv hr ha).nth i).a
    rcases Nat.lt_or_ge (nj r f).toNat i with hlt | hge
    · obtain ⟨k, rfl⟩ : ∃ k, i = (nj r f).toNat + k := ⟨i - (nj r f).toNat, by omega⟩
      unfold lt2 at hi
      have := b3 k (by omega)
      rw [rvn_add, a1] at s2
      omega
    · have := a3 i (by omega) hge
      omega
/-- So many double steps. -/
theorem doubles {r : Int} : ∀ (n : Nat) (f : Fm), Cy r f → Rt r (fdisc f) → 0 < f.1 → rvn (lts r n f) f = nbn r (2 * n) f ∧ (nmn r (2 * n) f = rm (lts r n f) f ∨ nmn r (2 * n) f = mneg (rm (lts r n f) f)) ∧ 0 < (nbn r (2 * n) f).1 ∧ (1 ≤ n → 1 ≤ lts r n f)
  | 0, f, _, _, ha => ⟨rfl, .inl rfl, ha, by omega⟩
  | n + 1, f, h, hr, ha => by
    obtain ⟨d1, d2, d3, d4, _⟩ := double h hr ha
    obtain ⟨c1, c2⟩ := h.nth 2 hr
    obtain ⟨e1, e2, e3, _⟩ := doubles n (nbn r 2 f) c1 c2 d3
    have hidx : 2 * (n + 1) = 2 + 2 * n := by omega
    refine ⟨?_, ?_, ?_, fun _ => by simp only [lts]; omega⟩
    · simp only [lts]
      rw [rvn_add, d1, e1, hidx, nbn_add]
    · simp only [lts]
      rw [hidx, nmn_add, rm_add, d1, d2]
      rcases e2 with e2 | e2
      · exact .inr (by rw [e2, neg_mm])
      · exact .inl (by rw [e2, neg_mm, mm_neg, mneg_mneg])
    · rw [hidx, nbn_add]; exact e3
/-- If the cycle has not come back, neither has the river. -/
theorem first_return {r : Int} {f : Fm} (h : Cy r f) (hr : Rt r (fdisc f)) (ha : 0 < f.1) : ∀ (n : Nat), (∀ k, 0 < k → k < n → nbn r (2 * k) f ≠ f) → ∀ i, 0 < i → i < lts r n f → rvn i f ≠ f
  | 0, _, i, _, hi => by simp [lts] at hi
  | n + 1, hk, i, h0, hi => by
    have ih := first_return h hr ha n (fun k h1 h2 => hk k h1 (by omega))
    -- the last double step
    have hl : lts r (n + 1) f = lts r n f + lt2 r (nbn r (2 * n) f) := by
      have : ∀ (n : Nat) (f : Fm), lts r (n + 1) f = lts r n f + lt2 r (nbn r (2 * n) f) := by
        intro n
        induction n with
        | zero => intro f; simp [lts, nbn]
        | succ n ih =>
          intro f
          show lt2 r f + lts r (n + 1) (nbn r 2 f) = lt2 r f + lts r n (nbn r 2 f) + lt2 r (nbn r (2 * (n + 1)) f)
          rw [ih (nbn r 2 f), ← nbn_add, show 2 + 2 * n = 2 * (n + 1) by omega]
          omega
      exact this n f
    obtain ⟨e1, _, e3, _⟩ := doubles n f h hr ha
    obtain ⟨c1, c2⟩ := h.nth (2 * n) hr
    obtain ⟨_, _, _, _, d5⟩ := double c1 c2 e3
    intro hret
    rcases (show i < lts r n f ∨ i = lts r n f ∨ lts r n f < i by omega) with hlt | heq | hgt
    · exact ih i h0 hlt hret
    · subst heq
      rw [e1] at hret
      have hn : 0 < n := by
        refine Nat.pos_of_ne_zero fun hn => ?_
        subst hn
        simp [lts] at h0
      exact hk n hn (by omega) hret
    · obtain ⟨k, rfl⟩ : ∃ k, i = lts r n f + k := ⟨i - lts r n f, by omega⟩
      rw [rvn_add, e1] at hret
      exact d5 k (by omega) (by omega) (by rw [hret]; exact h)
/-- Any positive solution is at least as great as what stands before the cycle comes back. -/
theorem sol_ge {r : Int} {f : Fm} (h : Cy r f) (hr : Rt r (fdisc f)) (ha : 0 < f.1) {n : Nat} (hk : ∀ k, 0 < k → k < n → nbn r (2 * k) f ≠ f) {t u : Int} (ht : 0 < t) (hu : 0 < u) (hs : t * t - fdisc f * (u * u) = 4) :
    ∃ p N, t = 2 * p + f.2.1 * u ∧ autM f p u = rm N f ∧ rvn N f = f ∧ 1 ≤ N ∧ lts r n f ≤ N := by
  obtain ⟨p, N, e1, e2, e3, e4⟩ := aut_word (h.rv hr ha) ht hu hs
  refine ⟨p, N, e1, e2, e3, e4, ?_⟩
  refine Nat.le_of_not_gt fun hlt => ?_
  exact first_return h hr ha n hk N (by omega) hlt e3
end Go.Proofs.Ytemnkfigjpphgaa

/-
  Solutions of Pell's equation: the least one and the cycle of a form with A = 1; solutions for -4. Plain mathematics.
-/
namespace Go.Proofs.Ytemnkfigjpphgaa
/-- A positive solution; the least one. -/
def Sol (d t u : Int) : Prop := 0 < t ∧ 0 < u ∧ t * t - d * (u * u) = 4
def Least (d t u : Int) : Prop := Sol d t u ∧ ∀ t' u', Sol d t' u' → u ≤ u'
def Small (t u : Int) : Prop := t ≤ 100000000 ∧ u ≤ 1000000
theorem lt_ne {a b : Int} (h : a ≤ b) (hn : a ≠ b) : a < b := by omega
theorem eq_of_sq {a b : Int} (ha : 0 ≤ a) (hb : 0 ≤ b) (h : a * a = b * b) : a = b := by
  rcases (show a < b ∨ a = b ∨ b < a by omega) with h1 | h1 | h1
  · have := Int.mul_lt_mul h1 (show a ≤ b by omega) (by
      refine lt_ne ha fun e => ?_
      rw [← e, Int.zero_mul] at h
      have := Int.mul_pos (show 0 < b by omega) (show 0 < b by omega)
      omega) hb
    omega
  · exact h1
  · have := Int.mul_lt_mul h1 (show b ≤ a by omega) (by
      refine lt_ne hb fun e => ?_
      rw [← e, Int.zero_mul] at h
      have := Int.mul_pos (show 0 < a by omega) (show 0 < a by omega)
      omega) ha
    omega
theorem Sol.mono {d t u t' u' : Int} (hd : 0 < d) (h : Sol d t u) (h' : Sol d t' u') (hu : u ≤ u') : t ≤ t' := by
  obtain ⟨a1, a2, a3⟩ := h
  obtain ⟨b1, b2, b3⟩ := h'
  have e1 := sq_le (by omega) hu
  have e2 := Int.mul_le_mul_of_nonneg_left e1 (show 0 ≤ d by omega)
  have e3 : t * t ≤ t' * t' := by omega
  refine Int.le_of_not_gt fun hlt => ?_
  have := Int.mul_le_mul (show t' + 1 ≤ t by omega) (show t' + 1 ≤ t by omega) (by omega) (by omega)
  have e4 : (t' + 1) * (t' + 1) = t' * t' + 2 * t' + 1 := by grind
  omega
theorem Sol.same {d t u t' : Int} (h : Sol d t u) (h' : Sol d t' u) : t = t' := by
  obtain ⟨a1, a2, a3⟩ := h
  obtain ⟨b1, b2, b3⟩ := h'
  exact eq_of_sq (by omega) (by omega) (by omega)
theorem Least.unique {d t u t' u' : Int} (h : Least d t u) (h' : Least d t' u') : t = t' ∧ u = u' := by
  have e : u = u' := Int.le_antisymm (h.2 _ _ h'.1) (h'.2 _ _ h.1)
  subst e
  exact ⟨h.1.same h'.1, rfl⟩
/-- What PellFour returns. -/
def PFour (d t u : Int) (ok : Bool) : Prop := (ok = true ∧ Least d t u ∧ Small t u) ∨ (ok = false ∧ t = 0 ∧ u = 0 ∧ ∀ t' u', Sol d t' u' → ¬ Small t' u')
theorem PFour.unique {d t u t' u' : Int} {ok ok' : Bool} (h : PFour d t u ok) (h' : PFour d t' u' ok') : t = t' ∧ u = u' ∧ ok = ok' := by
  rcases h with ⟨rfl, a, b⟩ | ⟨rfl, rfl, rfl, a⟩ <;> rcases h' with ⟨rfl, c, e⟩ | ⟨rfl, rfl, rfl, c⟩
  · obtain ⟨e1, e2⟩ := a.unique c
    exact ⟨e1, e2, rfl⟩
  · exact absurd b (c _ _ a.1)
  · exact absurd e (a _ _ c.1)
  · exact ⟨rfl, rfl, rfl⟩
/-- Entries of a matrix. -/
def mle (K : Int) (M : Mt) : Prop := (M.1.natAbs : Int) ≤ K ∧ (M.2.1.natAbs : Int) ≤ K ∧ (M.2.2.1.natAbs : Int) ≤ K ∧ (M.2.2.2.natAbs : Int) ≤ K
def msum (M : Mt) : Int := (M.1.natAbs : Int) + M.2.1.natAbs + M.2.2.1.natAbs + M.2.2.2.natAbs
theorem mle_neg {K : Int} {M : Mt} : mle K (mneg M) ↔ mle K M := by simp [mle, mneg]
theorem msum_neg (M : Mt) : msum (mneg M) = msum M := by simp [msum, mneg]
theorem rm_sum : ∀ (m : Nat) (f : Fm), (m : Int) + 2 ≤ msum (rm m f)
  | 0, f => by simp [rm, mI, msum]
  | m + 1, f => by
    have ih := rm_sum m (rv f)
    have hN := rm_nn m (rv f)
    obtain ⟨d1, d2⟩ := hN.diag
    have hq := hN.q
    have hr := hN.r
    show ((m + 1 : Nat) : Int) + 2 ≤ msum (mm (rx f) (rm m (rv f)))
    generalize rm m (rv f) = N at *
    unfold rx
    split
    · simp only [msum, mm, mR] at ih ⊢
      simp only [Int.one_mul, Int.zero_mul]
      omega
    · simp only [msum, mm, mL] at ih ⊢
      simp only [Int.one_mul, Int.zero_mul]
      omega
theorem lts_succ (r : Int) : ∀ (n : Nat) (f : Fm), lts r (n + 1) f = lts r n f + lt2 r (nbn r (2 * n) f)
  | 0, f => by simp [lts, nbn]
  | n + 1, f => by
    show lt2 r f + lts r (n + 1) (nbn r 2 f) = lt2 r f + lts r n (nbn r 2 f) + lt2 r (nbn r (2 * (n + 1)) f)
    rw [lts_succ r n (nbn r 2 f), ← nbn_add, show 2 + 2 * n = 2 * (n + 1) by omega]
    omega
theorem lts_ge {r : Int} : ∀ (n : Nat) (f : Fm), Cy r f → Rt r (fdisc f) → 0 < f.1 → 2 * n ≤ lts r n f
  | 0, _, _, _, _ => by omega
  | n + 1, f, h, hr, ha => by
    obtain ⟨_, _, d3, d4, _⟩ := double h hr ha
    obtain ⟨c1, c2⟩ := h.nth 2 hr
    have := lts_ge n (nbn r 2 f) c1 c2 d3
    simp only [lts]
    omega
/-- The product so far has the entries of a word of the river. -/
theorem ent {r : Int} {f : Fm} (h : Cy r f) (hr : Rt r (fdisc f)) (ha : 0 < f.1) (n : Nat) :
    ∃ m, n ≤ m ∧ m ≤ lts r ((n + 1) / 2) f ∧ (∀ K, mle K (rm m f) ↔ mle K (nmn r n f)) ∧ msum (nmn r n f) = msum (rm m f) := by
  obtain ⟨k, hk⟩ : ∃ k, n = 2 * k ∨ n = 2 * k + 1 := ⟨n / 2, by omega⟩
  obtain ⟨e1, e2, e3, _⟩ := doubles k f h hr ha
  have hge := lts_ge k f h hr ha
  rcases hk with rfl | rfl
  · refine ⟨lts r k f, by omega, by rw [show (2 * k + 1) / 2 = k by omega]; exact Nat.le_refl _, fun K => ?_, ?_⟩
    · rcases e2 with e2 | e2
      · rw [e2]
      · rw [e2, mle_neg]
    · rcases e2 with e2 | e2
      · rw [e2]
      · rw [e2, msum_neg]
  · obtain ⟨c1, c2⟩ := h.nth (2 * k) hr
    obtain ⟨a1, a2, _⟩ := step_one c1 c2 e3
    obtain ⟨_, hj, _⟩ := c1.next c2
    obtain ⟨hc, _⟩ := c1.side c2 e3
    have hsz : lts r k f + (nj r (nbn r (2 * k) f)).toNat ≤ lts r ((2 * k + 1 + 1) / 2) f := by
      rw [show (2 * k + 1 + 1) / 2 = k + 1 by omega, lts_succ]
      unfold lt2
      omega
    refine ⟨lts r k f + (nj r (nbn r (2 * k) f)).toNat, by omega, hsz, ?_⟩
    have hM : rm (lts r k f + (nj r (nbn r (2 * k) f)).toNat) f = mm (rm (lts r k f) f) (1, 0, nj r (nbn r (2 * k) f), 1) := by rw [rm_add, e1, a2]
    have hN : nmn r (2 * k + 1) f = mm (nmn r (2 * k) f) (0, -1, 1, -nj r (nbn r (2 * k) f)) := by
      rw [nmn_succ]
      unfold nm
      rw [if_pos hc]
    rw [hM, hN]
    have hnn := rm_nn (lts r k f) f
    have p0 := hnn.p
    have q0 := hnn.q
    have r0 := hnn.r
    have s0 := hnn.s
    generalize nj r (nbn r (2 * k) f) = j at *
    have key : ∀ M : Mt, 0 ≤ M.1 → 0 ≤ M.2.1 → 0 ≤ M.2.2.1 → 0 ≤ M.2.2.2 → (∀ K, mle K (mm M (1, 0, j, 1)) ↔ mle K (mm M (0, -1, 1, -j))) ∧ msum (mm M (0, -1, 1, -j)) = msum (mm M (1, 0, j, 1)) := by
      intro M hp hq hr hs
      obtain ⟨p, q, r', s⟩ := M
      have hqj : 0 ≤ q * j := Int.mul_nonneg hq (by omega)
      have hsj : 0 ≤ s * j := Int.mul_nonneg hs (by omega)
      simp only at hp hq hr hs
      simp only [mm, mle, msum]
      simp only [Int.mul_one, Int.mul_zero, Int.mul_neg]
      refine ⟨fun K => ⟨fun hh => ?_, fun hh => ?_⟩, ?_⟩ <;> omega
    have hkey := key _ p0 q0 r0 s0
    rcases e2 with e2 | e2
    · rw [e2]; exact hkey
    · rw [e2, neg_mm]
      exact ⟨fun K => by rw [mle_neg]; exact hkey.1 K, by rw [msum_neg]; exact hkey.2⟩
/-- Once the product is great, no solution is small. -/
theorem stop_big {r : Int} {f : Fm} (h : Cy r f) (hr : Rt r (fdisc f)) (ha : f.1 = 1) (hr31 : r ≤ 31) {n : Nat} (hk : ∀ k, 0 < k → k < n → nbn r k f ≠ f) (hbig : ¬ mle 1000000000 (nmn r n f)) : ∀ t u, Sol (fdisc f) t u → ¬ Small t u := by
  intro t u ⟨ht, hu, hs⟩ ⟨s1, s2⟩
  obtain ⟨m, m1, m2, m3, m4⟩ := ent h hr (by omega) n
  obtain ⟨p, N, e1, e2, e3, e4, e5⟩ := sol_ge h hr (by omega) (n := (n + 1) / 2) (fun k h1 h2 => hk (2 * k) (by omega) (by omega)) ht hu hs
  refine hbig ((m3 _).1 ?_)
  obtain ⟨g1, g2, g3, g4⟩ := rm_le (show m ≤ N by omega) f
  rw [← e2] at g1 g2 g3 g4
  have hnn := rm_nn N f
  rw [← e2] at hnn
  have q1 := hnn.p
  have q4 := hnn.s
  have hmm := rm_nn m f
  have z1 := hmm.p
  have z2 := hmm.q
  have z3 := hmm.r
  have z4 := hmm.s
  obtain ⟨hc, hside, _⟩ := h.side hr (by omega)
  have b0 := h.b0
  have br := h.br
  have hC : -f.2.2 ≤ 300 := by omega
  have hCu : -f.2.2 * u ≤ 300 * 1000000 := Int.mul_le_mul hC s2 (by omega) (by omega)
  have hBu : 0 ≤ f.2.1 * u := Int.mul_nonneg (by omega) (by omega)
  simp only [autM] at g1 g2 g3 g4 q1 q4
  rw [ha, Int.one_mul] at g3
  refine ⟨by omega, by omega, by omega, by omega⟩
/-- Where the cycle comes back, the least solution is found. -/
theorem come_back {r : Int} {f : Fm} (h : Cy r f) (hr : Rt r (fdisc f)) (ha : f.1 = 1) {n : Nat} (hn : 0 < n) (hk : ∀ k, 0 < k → k < n → nbn r k f ≠ f) (hret : nbn r n f = f) :
    Least (fdisc f) (((nmn r n f).1 + (nmn r n f).2.2.2).natAbs : Int) ((nmn r n f).2.2.1.natAbs : Int) := by
  -- an even number of steps
  obtain ⟨k, hke⟩ : ∃ k, n = 2 * k ∨ n = 2 * k + 1 := ⟨n / 2, by omega⟩
  obtain ⟨e1, e2, e3, e4⟩ := doubles k f h hr (by omega)
  obtain ⟨c1, c2⟩ := h.nth (2 * k) hr
  have hn2 : n = 2 * k := by
    rcases hke with hke | hke
    · exact hke
    · exfalso
      have := (sign_next c1 c2).1 e3
      rw [← nbn_succ, ← hke, hret] at this
      omega
  subst hn2
  have hm1 := e4 (by omega)
  have hW : rvn (lts r k f) f = f := by rw [e1, hret]
  have hnn := rm_nn (lts r k f) f
  have hsol := word_sol (M := rm (lts r k f) f) (f := f) (by rw [fact_rm]; exact hW) hnn.d (u := (rm (lts r k f) f).2.2.1) (by omega) (by rw [ha, Int.one_mul])
  obtain ⟨d1, d2⟩ := hnn.diag
  have r0 := hnn.r
  obtain ⟨hc, hside, _⟩ := h.side hr (by omega)
  have hr1 : 1 ≤ (rm (lts r k f) f).2.2.1 := by
    obtain ⟨m, hm⟩ : ∃ m, lts r k f = m + 1 := ⟨lts r k f - 1, by omega⟩
    rw [hm]
    show 1 ≤ (mm (rx f) (rm m (rv f))).2.2.1
    have hx : rx f = mL := by unfold rx; rw [if_neg (by omega)]
    obtain ⟨k1, _⟩ := (rm_nn m (rv f)).diag
    have k2 := (rm_nn m (rv f)).r
    rw [hx]
    show 1 ≤ 1 * (rm m (rv f)).1 + 1 * (rm m (rv f)).2.2.1
    omega
  have hT : ((((nmn r (2 * k) f).1 + (nmn r (2 * k) f).2.2.2).natAbs : Nat) : Int) = (rm (lts r k f) f).1 + (rm (lts r k f) f).2.2.2 := by
    rcases e2 with e2 | e2
    · rw [e2]; omega
    · rw [e2]; simp only [mneg]; omega
  have hU : (((nmn r (2 * k) f).2.2.1.natAbs : Nat) : Int) = (rm (lts r k f) f).2.2.1 := by
    rcases e2 with e2 | e2
    · rw [e2]; omega
    · rw [e2]; simp only [mneg]; omega
  rw [hT, hU]
  refine ⟨⟨by omega, by omega, hsol.2⟩, ?_⟩
  rintro t u ⟨ht, hu, hs⟩
  obtain ⟨p, N, g1, g2, g3, g4, g5⟩ := sol_ge h hr (by omega) (n := k) (fun i h1 h2 => hk (2 * i) (by omega) (by omega)) ht hu hs
  obtain ⟨_, _, q3, _⟩ := rm_le g5 f
  rw [← g2] at q3
  simp only [autM] at q3
  rw [ha, Int.one_mul] at q3
  exact q3
/-- A solution for -4. -/
def SolM (d t u : Int) : Prop := 0 < t ∧ 0 < u ∧ t * t - d * (u * u) = -4
/-- The square of the least one is the least one for 4. -/
theorem minus_square {d t u T U : Int} (hd5 : 5 ≤ d) (h : SolM d t u) (hmin : ∀ t' u', SolM d t' u' → u ≤ u') (hL : Least d T U) : t * u = U ∧ t * t + 2 = T := by
  have hd : 0 < d := by omega
  obtain ⟨ht, hu, hs⟩ := h
  have hsq : Sol d (t * t + 2) (t * u) := by
    refine ⟨by have := Int.mul_pos ht ht; omega, Int.mul_pos ht hu, ?_⟩
    have e : d * (u * u) = t * t + 4 := by omega
    have : d * (t * u * (t * u)) = t * t * (d * (u * u)) := by grind
    rw [this, e]
    grind
  have hle := hL.2 _ _ hsq
  obtain ⟨hT, hU, hLs⟩ := hL.1
  rcases (show U = t * u ∨ U < t * u by omega) with heq | hlt
  · refine ⟨heq.symm, ?_⟩
    rw [heq] at hL
    exact hsq.same hL.1
  · exfalso
    -- T < t t + 2
    have hTlt : T < t * t + 2 := by
      have e1 := hL.1.mono hd hsq hle
      refine lt_ne e1 fun e => ?_
      have h1 := hsq.2.2
      rw [← e] at h1
      have h2 : d * (U * U) = d * (t * u * (t * u)) := by omega
      have h3 := Int.eq_of_mul_eq_mul_left (by omega) h2
      have := eq_of_sq (by omega) (by omega) h3
      omega
    -- the quotient
    have par : ∃ b, u * T - t * U = 2 * b := by
      have e : (u * T - t * U) * (u * T + t * U) = 4 * (u * u + U * U) := by
        have k1 : T * T = d * (U * U) + 4 := by omega
        have k2 : t * t = d * (u * u) - 4 := by omega
        have : (u * T - t * U) * (u * T + t * U) = u * u * (T * T) - t * t * (U * U) := by grind
        rw [this, k1, k2]
        grind
      rcases (show (u * T - t * U) % 2 = 0 ∨ (u * T - t * U) % 2 = 1 by omega) with hp | hp
      · exact ⟨(u * T - t * U) / 2, by omega⟩
      · exfalso
        obtain ⟨x, hx⟩ : ∃ x, u * T - t * U = 2 * x + 1 := ⟨(u * T - t * U) / 2, by omega⟩
        have hy : u * T + t * U = 2 * (x + t * U) + 1 := by omega
        rw [hx, hy] at e
        have : (2 * x + 1) * (2 * (x + t * U) + 1) = 2 * (2 * (x * (x + t * U)) + x + (x + t * U)) + 1 := by grind
        omega
    obtain ⟨b, hb⟩ := par
    have k1 : T * T = d * (U * U) + 4 := by omega
    have k2 : t * t = d * (u * u) - 4 := by omega
    have hpos : (t * U) * (t * U) < (u * T) * (u * T) := by
      have e : (u * T) * (u * T) - (t * U) * (t * U) = 4 * (u * u) + 4 * (U * U) := by
        have : (u * T) * (u * T) - (t * U) * (t * U) = u * u * (T * T) - t * t * (U * U) := by grind
        rw [this, k1, k2]
        grind
      have := Int.mul_pos hu hu
      have := Int.mul_pos hU hU
      omega
    have hb0 : 0 < b := by
      have := lt_of_sq (show 0 ≤ u * T from Int.mul_nonneg (by omega) (by omega)) hpos
      omega
    -- b < u
    have hbu : b < u := by
      have e1 : u * (T - 2) < t * U := by
        refine lt_of_sq (Int.mul_nonneg (by omega) (by omega)) ?_
        have hd1 : d * ((u * (T - 2)) * (u * (T - 2))) < d * ((t * U) * (t * U)) := by
          have e2 : d * ((u * (T - 2)) * (u * (T - 2))) = (t * t + 4) * ((T - 2) * (T - 2)) := by
            have : d * ((u * (T - 2)) * (u * (T - 2))) = d * (u * u) * ((T - 2) * (T - 2)) := by grind
            rw [this, show d * (u * u) = t * t + 4 by omega]
          have e3 : d * ((t * U) * (t * U)) = t * t * ((T - 2) * (T + 2)) := by
            have : d * ((t * U) * (t * U)) = t * t * (d * (U * U)) := by grind
            rw [this, show d * (U * U) = T * T - 4 by omega]
            grind
          rw [e2, e3]
          have e4 : t * t * ((T - 2) * (T + 2)) - (t * t + 4) * ((T - 2) * (T - 2)) = (T - 2) * (4 * (t * t - (T - 2))) := by grind
          have hT2 : 0 < T - 2 := by
            have hUU := Int.mul_pos hd (Int.mul_pos hU hU)
            refine Int.lt_of_not_ge fun hle => ?_
            have := Int.mul_le_mul (show T ≤ 2 by omega) (show T ≤ 2 by omega) (by omega) (by omega)
            omega
          have := Int.mul_pos hT2 (show 0 < 4 * (t * t - (T - 2)) by omega)
          omega
        exact Int.lt_of_mul_lt_mul_left hd1 (by omega)
      have e5 : u * (T - 2) = u * T - 2 * u := by grind
      omega
    -- its first coordinate
    have para : ∃ a, t * T - d * (u * U) = 2 * a := by
      have e : (t * T - d * (u * U)) * (t * T - d * (u * U)) = d * ((2 * b) * (2 * b)) - 16 := by
        rw [← hb]
        have : (t * T - d * (u * U)) * (t * T - d * (u * U)) - d * ((u * T - t * U) * (u * T - t * U)) = (t * t - d * (u * u)) * (T * T - d * (U * U)) := by grind
        rw [hs, hLs] at this
        omega
      rcases (show (t * T - d * (u * U)) % 2 = 0 ∨ (t * T - d * (u * U)) % 2 = 1 by omega) with hp | hp
      · exact ⟨(t * T - d * (u * U)) / 2, by omega⟩
      · exfalso
        obtain ⟨x, hx⟩ : ∃ x, t * T - d * (u * U) = 2 * x + 1 := ⟨(t * T - d * (u * U)) / 2, by omega⟩
        rw [hx] at e
        have h1 : (2 * x + 1) * (2 * x + 1) = 2 * (2 * (x * x) + 2 * x) + 1 := by grind
        have h2 : d * (2 * b * (2 * b)) = 2 * (2 * (d * (b * b))) := by grind
        omega
    obtain ⟨a, hA⟩ := para
    have hab : a * a - d * (b * b) = -4 := by
      have e : (t * T - d * (u * U)) * (t * T - d * (u * U)) - d * ((u * T - t * U) * (u * T - t * U)) = (t * t - d * (u * u)) * (T * T - d * (U * U)) := by grind
      rw [hA, hb, hs, hLs] at e
      have : 2 * a * (2 * a) - d * (2 * b * (2 * b)) = 4 * (a * a - d * (b * b)) := by grind
      omega
    have ha0 : a ≠ 0 := by
      intro e
      subst e
      have h5 : d * (b * b) = 4 := by omega
      have h6 : 0 < b * b := Int.mul_pos hb0 hb0
      have := Int.mul_le_mul hd5 (show 1 ≤ b * b by omega) (by omega) (by omega)
      omega
    have hfin := hmin (a.natAbs : Int) b ⟨by omega, hb0, by
      have : ((a.natAbs : Int)) * (a.natAbs : Int) = a * a := by
        rcases Int.natAbs_eq a with e | e
        · rw [← e]
        · have e' : (a.natAbs : Int) = -a := by omega
          rw [e', Int.neg_mul_neg]
      rw [this]; exact hab⟩
    omega
end Go.Proofs.Ytemnkfigjpphgaa
