/-
  Cycles of forms are first returns of the river; the least solution. Plain mathematics.
-/
import Derived.Test.YtemnkfigjpphgaaNbr
namespace Go.Proofs.Ytemnkfigjpphgaa
/-- Along a cycle the outer signs alternate. -/
theorem Cy.rv {r : Int} {f : Fm} (h : Cy r f) (hr : Rt r (fdisc f)) (ha : 0 < f.1) : Rv f := by
  obtain ⟨h1, _⟩ := h.facts hr
  refine ⟨ha, ?_, hr.nsq⟩
  refine Int.lt_of_not_ge fun hc => ?_
  have := Int.mul_nonneg (show 0 ≤ f.1 by omega) hc
  omega
theorem Cy.side {r : Int} {f : Fm} (h : Cy r f) (hr : Rt r (fdisc f)) (ha : 0 < f.1) : f.2.2 < 0 ∧ 0 < f.1 + f.2.1 + f.2.2 ∧ f.1 - f.2.1 + f.2.2 < 0 := by
  obtain ⟨h1, h2, h3, h4, h5⟩ := h.facts hr
  have hc := (h.rv hr ha).c
  refine ⟨hc, by omega, by omega⟩
/-- The first of two steps. -/
theorem step_one {r : Int} {f : Fm} (h : Cy r f) (hr : Rt r (fdisc f)) (ha : 0 < f.1) :
    rvn (nj r f).toNat f = ((nb r f).2.2, -(nb r f).2.1, (nb r f).1) ∧ rm (nj r f).toNat f = (1, 0, nj r f, 1) ∧ (∀ i, 1 ≤ i → i ≤ (nj r f).toNat → 0 < (rvn i f).1 - (rvn i f).2.1 + (rvn i f).2.2) := by
  obtain ⟨hn, hj, hrn⟩ := h.next hr
  obtain ⟨hc, hs1, hs2⟩ := h.side hr ha
  obtain ⟨g1, _⟩ := hn.facts hrn
  rw [nb_val, if_pos hc] at g1 ⊢
  obtain ⟨A, B, C⟩ := f
  simp only at *
  generalize nj r (A, B, C) = j at *
  obtain ⟨n, rfl⟩ : ∃ n : Nat, j = n := ⟨j.toNat, by omega⟩
  rw [show ((n : Int)).toNat = n by omega]
  have hend : 0 < A + B * n + C * ((n : Int) * n) := by
    refine Int.lt_of_not_ge fun hle => ?_
    have := Int.mul_nonneg_of_nonpos_of_nonpos (show C ≤ 0 by omega) hle
    omega
  have hall := fun i hi => concave (show C ≤ 0 by omega) ha hend i hi
  obtain ⟨e1, e2⟩ := run_L n (A, B, C) hall
  refine ⟨?_, e2, ?_⟩
  · rw [e1]
    refine Prod.ext rfl (Prod.ext ?_ rfl)
    show B + 2 * C * (n : Int) = -(2 * (C.natAbs : Int) * n - B)
    rw [show (C.natAbs : Int) = -C by omega]
    grind
  · intro i hi1 hi2
    obtain ⟨e3, _⟩ := run_L i (A, B, C) (fun k hk => hall k (by omega))
    rw [e3]
    have := hall (i - 1) (by omega)
    simp only at this ⊢
    have hcast : ((i - 1 : Nat) : Int) = (i : Int) - 1 := by omega
    rw [hcast] at this
    have e4 : A + B * (i : Int) + C * ((i : Int) * i) - (B + 2 * C * (i : Int)) + C = A + B * ((i : Int) - 1) + C * (((i : Int) - 1) * ((i : Int) - 1)) := by grind
    rw [e4]; exact this
/-- The second. -/
theorem step_two {r : Int} {g : Fm} (h : Cy r g) (hr : Rt r (fdisc g)) (ha : g.1 < 0) :
    rvn (nj r g).toNat (g.2.2, -g.2.1, g.1) = nb r g ∧ rm (nj r g).toNat (g.2.2, -g.2.1, g.1) = (1, nj r g, 0, 1) ∧ (∀ i, i < (nj r g).toNat → (rvn i (g.2.2, -g.2.1, g.1)).1 + (rvn i (g.2.2, -g.2.1, g.1)).2.1 + (rvn i (g.2.2, -g.2.1, g.1)).2.2 < 0) ∧ 0 < (nb r g).1 := by
  obtain ⟨hn, hj, hrn⟩ := h.next hr
  obtain ⟨h1, h2, h3, h4, h5⟩ := h.facts hr
  obtain ⟨g1, _⟩ := hn.facts hrn
  have hc : 0 < g.2.2 := by
    refine Int.lt_of_not_ge fun hle => ?_
    have := Int.mul_nonneg_of_nonpos_of_nonpos (show g.1 ≤ 0 by omega) hle
    omega
  rw [nb_val, if_neg (by omega)] at g1 ⊢
  obtain ⟨A, B, C⟩ := g
  simp only at *
  generalize nj r (A, B, C) = j at *
  obtain ⟨n, rfl⟩ : ∃ n : Nat, j = n := ⟨j.toNat, by omega⟩
  rw [show ((n : Int)).toNat = n by omega]
  have hend : C * ((n : Int) * n) + -B * n + A < 0 := by
    refine Int.lt_of_not_ge fun hle => ?_
    have := Int.mul_nonneg (show 0 ≤ C by omega) hle
    have e : A - B * (n : Int) + C * ((n : Int) * n) = C * ((n : Int) * n) + -B * n + A := by grind
    rw [e] at g1
    omega
  have hall := fun i hi => convex (show 0 ≤ C by omega) ha hend i hi
  obtain ⟨e1, e2⟩ := run_R n (C, -B, A) hall
  refine ⟨?_, e2, ?_, hc⟩
  · rw [e1]
    refine Prod.ext rfl (Prod.ext ?_ ?_)
    · show -B + 2 * C * (n : Int) = 2 * (C.natAbs : Int) * n - B
      rw [show (C.natAbs : Int) = C by omega]
      omega
    · show C * ((n : Int) * n) + -B * n + A = A - B * n + C * ((n : Int) * n)
      grind
  · intro i hi
    obtain ⟨e3, _⟩ := run_R i (C, -B, A) (fun k hk => hall k (by omega))
    rw [e3]
    have := hall (i + 1) (by omega)
    simp only at this ⊢
    push_cast at this
    have e4 : C + (-B + 2 * C * (i : Int)) + (C * ((i : Int) * i) + -B * i + A) = C * (((i : Int) + 1) * ((i : Int) + 1)) + -B * ((i : Int) + 1) + A := by grind
    rw [e4]; exact this
/-- Neighbours, many. -/
def nbn (r : Int) : Nat → Fm → Fm
  | 0, f => f
  | n + 1, f => nbn r n (nb r f)
def nmn (r : Int) : Nat → Fm → Mt
  | 0, _ => mI
  | n + 1, f => mm (nm r f) (nmn r n (nb r f))
theorem nbn_add (r : Int) : ∀ (m n : Nat) (f : Fm), nbn r (m + n) f = nbn r n (nbn r m f)
  | 0, n, f => by rw [Nat.zero_add]; rfl
  | m + 1, n, f => by rw [show m + 1 + n = (m + n) + 1 by omega]; exact nbn_add r m n (nb r f)
theorem nmn_add (r : Int) : ∀ (m n : Nat) (f : Fm), nmn r (m + n) f = mm (nmn r m f) (nmn r n (nbn r m f))
  | 0, n, f => by rw [Nat.zero_add]; exact (one_mm _).symm
  | m + 1, n, f => by
    rw [show m + 1 + n = (m + n) + 1 by omega]
    show mm (nm r f) (nmn r (m + n) (nb r f)) = mm (mm (nm r f) (nmn r m (nb r f))) (nmn r n (nbn r m (nb r f)))
    rw [nmn_add r m n (nb r f), mm_assoc]
theorem nbn_succ (r : Int) (n : Nat) (f : Fm) : nbn r (n + 1) f = nb r (nbn r n f) := nbn_add r n 1 f
theorem nmn_succ (r : Int) (n : Nat) (f : Fm) : nmn r (n + 1) f = mm (nmn r n f) (nm r (nbn r n f)) := by
  rw [nmn_add r n 1 f]
  show mm _ (mm (nm r (nbn r n f)) mI) = _
  rw [mm_one]
theorem fact_nmn (r : Int) : ∀ (n : Nat) (f : Fm), fact f (nmn r n f) = nbn r n f
  | 0, f => fact_one f
  | n + 1, f => by
    show fact f (mm (nm r f) (nmn r n (nb r f))) = _
    rw [fact_mm]
    exact fact_nmn r n (nb r f)
theorem nmn_det (r : Int) : ∀ (n : Nat) (f : Fm), mdet (nmn r n f) = 1
  | 0, _ => rfl
  | n + 1, f => by
    show mdet (mm (nm r f) (nmn r n (nb r f))) = 1
    rw [mdet_mm, nm_det, nmn_det r n]; rfl
theorem Cy.nth {r : Int} {f : Fm} : ∀ (n : Nat) (_ : Cy r f) (_ : Rt r (fdisc f)), Cy r (nbn r n f) ∧ Rt r (fdisc (nbn r n f))
  | 0, h, hr => ⟨h, hr⟩
  | n + 1, h, hr => by
    obtain ⟨a, _, b⟩ := h.next hr
    exact Cy.nth n a b
/-- The sign of the outer coefficients. -/
theorem sign_next {r : Int} {f : Fm} (h : Cy r f) (hr : Rt r (fdisc f)) : (0 < f.1 → (nb r f).1 < 0) ∧ (f.1 < 0 → 0 < (nb r f).1) := by
  obtain ⟨h1, _⟩ := h.facts hr
  rw [nb_val]
  simp only
  refine ⟨fun ha => ?_, fun ha => ?_⟩
  · refine Int.lt_of_not_ge fun hc => ?_
    have := Int.mul_nonneg (show 0 ≤ f.1 by omega) hc
    omega
  · refine Int.lt_of_not_ge fun hc => ?_
    have := Int.mul_nonneg_of_nonpos_of_nonpos (show f.1 ≤ 0 by omega) hc
    omega
/-- The letters of so many double steps. -/
def lt2 (r : Int) (f : Fm) : Nat := (nj r f).toNat + (nj r (nb r f)).toNat
def lts (r : Int) : Nat → Fm → Nat
  | 0, _ => 0
  | n + 1, f => lt2 r f + lts r n (nbn r 2 f)
theorem double {r : Int} {f : Fm} (h : Cy r f) (hr : Rt r (fdisc f)) (ha : 0 < f.1) :
    rvn (lt2 r f) f = nbn r 2 f ∧ nmn r 2 f = mneg (rm (lt2 r f) f) ∧ 0 < (nbn r 2 f).1 ∧ 2 ≤ lt2 r f ∧ (∀ i, 0 < i → i < lt2 r f → ¬ (Cy r (rvn i f))) := by
  obtain ⟨hn, hj, hrn⟩ := h.next hr
  obtain ⟨a1, a2, a3⟩ := step_one h hr ha
  have hs := (sign_next h hr).1 ha
  obtain ⟨b1, b2, b3, b4⟩ := step_two hn hrn hs
  obtain ⟨_, hj2, _⟩ := hn.next hrn
  have e1 : rvn (lt2 r f) f = nbn r 2 f := by
    unfold lt2
    rw [rvn_add, a1, b1]
    rfl
  refine ⟨e1, ?_, b4, by unfold lt2; omega, ?_⟩
  · unfold lt2
    rw [rm_add, a2, a1, b2]
    show mm (nm r f) (mm (nm r (nb r f)) mI) = _
    rw [mm_one]
    obtain ⟨hc, _⟩ := h.side hr ha
    have hnc : ¬ (nb r f).2.2 < 0 := by
      obtain ⟨g1, _⟩ := hn.facts hrn
      intro hlt
      have := Int.mul_nonneg_of_nonpos_of_nonpos (show (nb r f).1 ≤ 0 by omega) (show (nb r f).2.2 ≤ 0 by omega)
      omega
    unfold nm
    rw [if_pos hc, if_neg hnc]
    refine Prod.ext ?_ (Prod.ext ?_ (Prod.ext ?_ ?_)) <;> simp only [mm, mneg] <;> grind
  · intro i h0 hi hcy
    have hri : Rt r (fdisc (rvn i f)) := by
      rw [← fact_rm, fdisc_fact, (rm_nn i f).d]
      simpa using hr
    obtain ⟨s1, s2, s3⟩ := hcy.side hri ((h.rv hr ha).nth i).a
    rcases Nat.lt_or_ge (nj r f).toNat i with hlt | hge
    · obtain ⟨k, rfl⟩ : ∃ k, i = (nj r f).toNat + k := ⟨i - (nj r f).toNat, by omega⟩
      unfold lt2 at hi
      have := b3 k (by omega)
      rw [rvn_add, a1] at s2
      omega
    · have := a3 i (by omega) hge
      omega
/-- So many double steps. -/
theorem doubles {r : Int} : ∀ (n : Nat) (f : Fm), Cy r f → Rt r (fdisc f) → 0 < f.1 → rvn (lts r n f) f = nbn r (2 * n) f ∧ (nmn r (2 * n) f = rm (lts r n f) f ∨ nmn r (2 * n) f = mneg (rm (lts r n f) f)) ∧ 0 < (nbn r (2 * n) f).1 ∧ (1 ≤ n → 1 ≤ lts r n f)
  | 0, f, _, _, ha => ⟨rfl, .inl rfl, ha, by omega⟩
  | n + 1, f, h, hr, ha => by
    obtain ⟨d1, d2, d3, d4, _⟩ := double h hr ha
    obtain ⟨c1, c2⟩ := h.nth 2 hr
    obtain ⟨e1, e2, e3, _⟩ := doubles n (nbn r 2 f) c1 c2 d3
    have hidx : 2 * (n + 1) = 2 + 2 * n := by omega
    refine ⟨?_, ?_, ?_, fun _ => by simp only [lts]; omega⟩
    · simp only [lts]
      rw [rvn_add, d1, e1, hidx, nbn_add]
    · simp only [lts]
      rw [hidx, nmn_add, rm_add, d1, d2]
      rcases e2 with e2 | e2
      · exact .inr (by rw [e2, neg_mm])
      · exact .inl (by rw [e2, neg_mm, mm_neg, mneg_mneg])
    · rw [hidx, nbn_add]; exact e3
/-- If the cycle has not come back, neither has the river. -/
theorem first_return {r : Int} {f : Fm} (h : Cy r f) (hr : Rt r (fdisc f)) (ha : 0 < f.1) : ∀ (n : Nat), (∀ k, 0 < k → k < n → nbn r (2 * k) f ≠ f) → ∀ i, 0 < i → i < lts r n f → rvn i f ≠ f
  | 0, _, i, _, hi => by simp [lts] at hi
  | n + 1, hk, i, h0, hi => by
    have ih := first_return h hr ha n (fun k h1 h2 => hk k h1 (by omega))
    -- the last double step
    have hl : lts r (n + 1) f = lts r n f + lt2 r (nbn r (2 * n) f) := by
      have : ∀ (n : Nat) (f : Fm), lts r (n + 1) f = lts r n f + lt2 r (nbn r (2 * n) f) := by
        intro n
        induction n with
        | zero => intro f; simp [lts, nbn]
        | succ n ih =>
          intro f
          show lt2 r f + lts r (n + 1) (nbn r 2 f) = lt2 r f + lts r n (nbn r 2 f) + lt2 r (nbn r (2 * (n + 1)) f)
          rw [ih (nbn r 2 f), ← nbn_add, show 2 + 2 * n = 2 * (n + 1) by omega]
          omega
      exact this n f
    obtain ⟨e1, _, e3, _⟩ := doubles n f h hr ha
    obtain ⟨c1, c2⟩ := h.nth (2 * n) hr
    obtain ⟨_, _, _, _, d5⟩ := double c1 c2 e3
    intro hret
    rcases (show i < lts r n f ∨ i = lts r n f ∨ lts r n f < i by omega) with hlt | heq | hgt
    · exact ih i h0 hlt hret
    · subst heq
      rw [e1] at hret
      have hn : 0 < n := by
        refine Nat.pos_of_ne_zero fun hn => ?_
        subst hn
        simp [lts] at h0
      exact hk n hn (by omega) hret
    · obtain ⟨k, rfl⟩ : ∃ k, i = lts r n f + k := ⟨i - lts r n f, by omega⟩
      rw [rvn_add, e1] at hret
      exact d5 k (by omega) (by omega) (by rw [hret]; exact h)
/-- Any positive solution is at least as great as what stands before the cycle comes back. -/
theorem sol_ge {r : Int} {f : Fm} (h : Cy r f) (hr : Rt r (fdisc f)) (ha : 0 < f.1) {n : Nat} (hk : ∀ k, 0 < k → k < n → nbn r (2 * k) f ≠ f) {t u : Int} (ht : 0 < t) (hu : 0 < u) (hs : t * t - fdisc f * (u * u) = 4) :
    ∃ p N, t = 2 * p + f.2.1 * u ∧ autM f p u = rm N f ∧ rvn N f = f ∧ 1 ≤ N ∧ lts r n f ≤ N := by
  obtain ⟨p, N, e1, e2, e3, e4⟩ := aut_word (h.rv hr ha) ht hu hs
  refine ⟨p, N, e1, e2, e3, e4, ?_⟩
  refine Nat.le_of_not_gt fun hlt => ?_
  exact first_return h hr ha n hk N (by omega) hlt e3
end Go.Proofs.Ytemnkfigjpphgaa
