/-
  Solutions of Pell's equation: the least one and the cycle of a form with A = 1; solutions for -4. Plain mathematics.
-/
import Derived.Test.YtemnkfigjpphgaaCyc
namespace Go.Proofs.Ytemnkfigjpphgaa
/-- A positive solution; the least one. -/
def Sol (d t u : Int) : Prop := 0 < t ∧ 0 < u ∧ t * t - d * (u * u) = 4
def Least (d t u : Int) : Prop := Sol d t u ∧ ∀ t' u', Sol d t' u' → u ≤ u'
def Small (t u : Int) : Prop := t ≤ 100000000 ∧ u ≤ 1000000
theorem lt_ne {a b : Int} (h : a ≤ b) (hn : a ≠ b) : a < b := by omega
theorem eq_of_sq {a b : Int} (ha : 0 ≤ a) (hb : 0 ≤ b) (h : a * a = b * b) : a = b := by
  rcases (show a < b ∨ a = b ∨ b < a by omega) with h1 | h1 | h1
  · have := Int.mul_lt_mul h1 (show a ≤ b by omega) (by
      refine lt_ne ha fun e => ?_
      rw [← e, Int.zero_mul] at h
      have := Int.mul_pos (show 0 < b by omega) (show 0 < b by omega)
      omega) hb
    omega
  · exact h1
  · have := Int.mul_lt_mul h1 (show b ≤ a by omega) (by
      refine lt_ne hb fun e => ?_
      rw [← e, Int.zero_mul] at h
      have := Int.mul_pos (show 0 < a by omega) (show 0 < a by omega)
      omega) ha
    omega
theorem Sol.mono {d t u t' u' : Int} (hd : 0 < d) (h : Sol d t u) (h' : Sol d t' u') (hu : u ≤ u') : t ≤ t' := by
  obtain ⟨a1, a2, a3⟩ := h
  obtain ⟨b1, b2, b3⟩ := h'
  have e1 := sq_le (by omega) hu
  have e2 := Int.mul_le_mul_of_nonneg_left e1 (show 0 ≤ d by omega)
  have e3 : t * t ≤ t' * t' := by omega
  refine Int.le_of_not_gt fun hlt => ?_
  have := Int.mul_le_mul (show t' + 1 ≤ t by omega) (show t' + 1 ≤ t by omega) (by omega) (by omega)
  have e4 : (t' + 1) * (t' + 1) = t' * t' + 2 * t' + 1 := by grind
  omega
theorem Sol.same {d t u t' : Int} (h : Sol d t u) (h' : Sol d t' u) : t = t' := by
  obtain ⟨a1, a2, a3⟩ := h
  obtain ⟨b1, b2, b3⟩ := h'
  exact eq_of_sq (by omega) (by omega) (by omega)
theorem Least.unique {d t u t' u' : Int} (h : Least d t u) (h' : Least d t' u') : t = t' ∧ u = u' := by
  have e : u = u' := Int.le_antisymm (h.2 _ _ h'.1) (h'.2 _ _ h.1)
  subst e
  exact ⟨h.1.same h'.1, rfl⟩
/-- What PellFour returns. -/
def PFour (d t u : Int) (ok : Bool) : Prop := (ok = true ∧ Least d t u ∧ Small t u) ∨ (ok = false ∧ t = 0 ∧ u = 0 ∧ ∀ t' u', Sol d t' u' → ¬ Small t' u')
theorem PFour.unique {d t u t' u' : Int} {ok ok' : Bool} (h : PFour d t u ok) (h' : PFour d t' u' ok') : t = t' ∧ u = u' ∧ ok = ok' := by
  rcases h with ⟨rfl, a, b⟩ | ⟨rfl, rfl, rfl, a⟩ <;> rcases h' with ⟨rfl, c, e⟩ | ⟨rfl, rfl, rfl, c⟩
  · obtain ⟨e1, e2⟩ := a.unique c
    exact ⟨e1, e2, rfl⟩
  · exact absurd b (c _ _ a.1)
  · exact absurd e (a _ _ c.1)
  · exact ⟨rfl, rfl, rfl⟩
/-- Entries of a matrix. -/
def mle (K : Int) (M : Mt) : Prop := (M.1.natAbs : Int) ≤ K ∧ (M.2.1.natAbs : Int) ≤ K ∧ (M.2.2.1.natAbs : Int) ≤ K ∧ (M.2.2.2.natAbs : Int) ≤ K
def msum (M : Mt) : Int := (M.1.natAbs : Int) + M.2.1.natAbs + M.2.2.1.natAbs + M.2.2.2.natAbs
theorem mle_neg {K : Int} {M : Mt} : mle K (mneg M) ↔ mle K M := by simp [mle, mneg]
theorem msum_neg (M : Mt) : msum (mneg M) = msum M := by simp [msum, mneg]
theorem rm_sum : ∀ (m : Nat) (f : Fm), (m : Int) + 2 ≤ msum (rm m f)
  | 0, f => by simp [rm, mI, msum]
  | m + 1, f => by
    have ih := rm_sum m (rv f)
    have hN := rm_nn m (rv f)
    obtain ⟨d1, d2⟩ := hN.diag
    have hq := hN.q
    have hr := hN.r
    show ((m + 1 : Nat) : Int) + 2 ≤ msum (mm (rx f) (rm m (rv f)))
    generalize rm m (rv f) = N at *
    unfold rx
    split
    · simp only [msum, mm, mR] at ih ⊢
      simp only [Int.one_mul, Int.zero_mul]
      omega
    · simp only [msum, mm, mL] at ih ⊢
      simp only [Int.one_mul, Int.zero_mul]
      omega
theorem lts_succ (r : Int) : ∀ (n : Nat) (f : Fm), lts r (n + 1) f = lts r n f + lt2 r (nbn r (2 * n) f)
  | 0, f => by simp [lts, nbn]
  | n + 1, f => by
    show lt2 r f + lts r (n + 1) (nbn r 2 f) = lt2 r f + lts r n (nbn r 2 f) + lt2 r (nbn r (2 * (n + 1)) f)
    rw [lts_succ r n (nbn r 2 f), ← nbn_add, show 2 + 2 * n = 2 * (n + 1) by omega]
    omega
theorem lts_ge {r : Int} : ∀ (n : Nat) (f : Fm), Cy r f → Rt r (fdisc f) → 0 < f.1 → 2 * n ≤ lts r n f
  | 0, _, _, _, _ => by omega
  | n + 1, f, h, hr, ha => by
    obtain ⟨_, _, d3, d4, _⟩ := double h hr ha
    obtain ⟨c1, c2⟩ := h.nth 2 hr
    have := lts_ge n (nbn r 2 f) c1 c2 d3
    simp only [lts]
    omega
/-- The product so far has the entries of a word of the river. -/
theorem ent {r : Int} {f : Fm} (h : Cy r f) (hr : Rt r (fdisc f)) (ha : 0 < f.1) (n : Nat) :
    ∃ m, n ≤ m ∧ m ≤ lts r ((n + 1) / 2) f ∧ (∀ K, mle K (rm m f) ↔ mle K (nmn r n f)) ∧ msum (nmn r n f) = msum (rm m f) := by
  obtain ⟨k, hk⟩ : ∃ k, n = 2 * k ∨ n = 2 * k + 1 := ⟨n / 2, by omega⟩
  obtain ⟨e1, e2, e3, _⟩ := doubles k f h hr ha
  have hge := lts_ge k f h hr ha
  rcases hk with rfl | rfl
  · refine ⟨lts r k f, by omega, by rw [show (2 * k + 1) / 2 = k by omega]; exact Nat.le_refl _, fun K => ?_, ?_⟩
    · rcases e2 with e2 | e2
      · rw [e2]
      · rw [e2, mle_neg]
    · rcases e2 with e2 | e2
      · rw [e2]
      · rw [e2, msum_neg]
  · obtain ⟨c1, c2⟩ := h.nth (2 * k) hr
    obtain ⟨a1, a2, _⟩ := step_one c1 c2 e3
    obtain ⟨_, hj, _⟩ := c1.next c2
    obtain ⟨hc, _⟩ := c1.side c2 e3
    have hsz : lts r k f + (nj r (nbn r (2 * k) f)).toNat ≤ lts r ((2 * k + 1 + 1) / 2) f := by
      rw [show (2 * k + 1 + 1) / 2 = k + 1 by omega, lts_succ]
      unfold lt2
      omega
    refine ⟨lts r k f + (nj r (nbn r (2 * k) f)).toNat, by omega, hsz, ?_⟩
    have hM : rm (lts r k f + (nj r (nbn r (2 * k) f)).toNat) f = mm (rm (lts r k f) f) (1, 0, nj r (nbn r (2 * k) f), 1) := by rw [rm_add, e1, a2]
    have hN : nmn r (2 * k + 1) f = mm (nmn r (2 * k) f) (0, -1, 1, -nj r (nbn r (2 * k) f)) := by
      rw [nmn_succ]
      unfold nm
      rw [if_pos hc]
    rw [hM, hN]
    have hnn := rm_nn (lts r k f) f
    have p0 := hnn.p
    have q0 := hnn.q
    have r0 := hnn.r
    have s0 := hnn.s
    generalize nj r (nbn r (2 * k) f) = j at *
    have key : ∀ M : Mt, 0 ≤ M.1 → 0 ≤ M.2.1 → 0 ≤ M.2.2.1 → 0 ≤ M.2.2.2 → (∀ K, mle K (mm M (1, 0, j, 1)) ↔ mle K (mm M (0, -1, 1, -j))) ∧ msum (mm M (0, -1, 1, -j)) = msum (mm M (1, 0, j, 1)) := by
      intro M hp hq hr hs
      obtain ⟨p, q, r', s⟩ := M
      have hqj : 0 ≤ q * j := Int.mul_nonneg hq (by omega)
      have hsj : 0 ≤ s * j := Int.mul_nonneg hs (by omega)
      simp only at hp hq hr hs
      simp only [mm, mle, msum]
      simp only [Int.mul_one, Int.mul_zero, Int.mul_neg]
      refine ⟨fun K => ⟨fun hh => ?_, fun hh => ?_⟩, ?_⟩ <;> omega
    have hkey := key _ p0 q0 r0 s0
    rcases e2 with e2 | e2
    · rw [e2]; exact hkey
    · rw [e2, neg_mm]
      exact ⟨fun K => by rw [mle_neg]; exact hkey.1 K, by rw [msum_neg]; exact hkey.2⟩
/-- Once the product is great, no solution is small. -/
theorem stop_big {r : Int} {f : Fm} (h : Cy r f) (hr : Rt r (fdisc f)) (ha : f.1 = 1) (hr31 : r ≤ 31) {n : Nat} (hk : ∀ k, 0 < k → k < n → nbn r k f ≠ f) (hbig : ¬ mle 1000000000 (nmn r n f)) : ∀ t u, Sol (fdisc f) t u → ¬ Small t u := by
  intro t u ⟨ht, hu, hs⟩ ⟨s1, s2⟩
  obtain ⟨m, m1, m2, m3, m4⟩ := ent h hr (by omega) n
  obtain ⟨p, N, e1, e2, e3, e4, e5⟩ := sol_ge h hr (by omega) (n := (n + 1) / 2) (fun k h1 h2 => hk (2 * k) (by omega) (by omega)) ht hu hs
  refine hbig ((m3 _).1 ?_)
  obtain ⟨g1, g2, g3, g4⟩ := rm_le (show m ≤ N by omega) f
  rw [← e2] at g1 g2 g3 g4
  have hnn := rm_nn N f
  rw [← e2] at hnn
  have q1 := hnn.p
  have q4 := hnn.s
  have hmm := rm_nn m f
  have z1 := hmm.p
  have z2 := hmm.q
  have z3 := hmm.r
  have z4 := hmm.s
  obtain ⟨hc, hside, _⟩ := h.side hr (by omega)
  have b0 := h.b0
  have br := h.br
  have hC : -f.2.2 ≤ 300 := by omega
  have hCu : -f.2.2 * u ≤ 300 * 1000000 := Int.mul_le_mul hC s2 (by omega) (by omega)
  have hBu : 0 ≤ f.2.1 * u := Int.mul_nonneg (by omega) (by omega)
  simp only [autM] at g1 g2 g3 g4 q1 q4
  rw [ha, Int.one_mul] at g3
  refine ⟨by omega, by omega, by omega, by omega⟩
/-- Where the cycle comes back, the least solution is found. -/
theorem come_back {r : Int} {f : Fm} (h : Cy r f) (hr : Rt r (fdisc f)) (ha : f.1 = 1) {n : Nat} (hn : 0 < n) (hk : ∀ k, 0 < k → k < n → nbn r k f ≠ f) (hret : nbn r n f = f) :
    Least (fdisc f) (((nmn r n f).1 + (nmn r n f).2.2.2).natAbs : Int) ((nmn r n f).2.2.1.natAbs : Int) := by
  -- an even number of steps
  obtain ⟨k, hke⟩ : ∃ k, n = 2 * k ∨ n = 2 * k + 1 := ⟨n / 2, by omega⟩
  obtain ⟨e1, e2, e3, e4⟩ := doubles k f h hr (by omega)
  obtain ⟨c1, c2⟩ := h.nth (2 * k) hr
  have hn2 : n = 2 * k := by
    rcases hke with hke | hke
    · exact hke
    · exfalso
      have := (sign_next c1 c2).1 e3
      rw [← nbn_succ, ← hke, hret] at this
      omega
  subst hn2
  have hm1 := e4 (by omega)
  have hW : rvn (lts r k f) f = f := by rw [e1, hret]
  have hnn := rm_nn (lts r k f) f
  have hsol := word_sol (M := rm (lts r k f) f) (f := f) (by rw [fact_rm]; exact hW) hnn.d (u := (rm (lts r k f) f).2.2.1) (by omega) (by rw [ha, Int.one_mul])
  obtain ⟨d1, d2⟩ := hnn.diag
  have r0 := hnn.r
  obtain ⟨hc, hside, _⟩ := h.side hr (by omega)
  have hr1 : 1 ≤ (rm (lts r k f) f).2.2.1 := by
    obtain ⟨m, hm⟩ : ∃ m, lts r k f = m + 1 := ⟨lts r k f - 1, by omega⟩
    rw [hm]
    show 1 ≤ (mm (rx f) (rm m (rv f))).2.2.1
    have hx : rx f = mL := by unfold rx; rw [if_neg (by omega)]
    obtain ⟨k1, _⟩ := (rm_nn m (rv f)).diag
    have k2 := (rm_nn m (rv f)).r
    rw [hx]
    show 1 ≤ 1 * (rm m (rv f)).1 + 1 * (rm m (rv f)).2.2.1
    omega
  have hT : ((((nmn r (2 * k) f).1 + (nmn r (2 * k) f).2.2.2).natAbs : Nat) : Int) = (rm (lts r k f) f).1 + (rm (lts r k f) f).2.2.2 := by
    rcases e2 with e2 | e2
    · rw [e2]; omega
    · rw [e2]; simp only [mneg]; omega
  have hU : (((nmn r (2 * k) f).2.2.1.natAbs : Nat) : Int) = (rm (lts r k f) f).2.2.1 := by
    rcases e2 with e2 | e2
    · rw [e2]; omega
    · rw [e2]; simp only [mneg]; omega
  rw [hT, hU]
  refine ⟨⟨by omega, by omega, hsol.2⟩, ?_⟩
  rintro t u ⟨ht, hu, hs⟩
  obtain ⟨p, N, g1, g2, g3, g4, g5⟩ := sol_ge h hr (by omega) (n := k) (fun i h1 h2 => hk (2 * i) (by omega) (by omega)) ht hu hs
  obtain ⟨_, _, q3, _⟩ := rm_le g5 f
  rw [← g2] at q3
  simp only [autM] at q3
  rw [ha, Int.one_mul] at q3
  exact q3
/-- A solution for -4. -/
def SolM (d t u : Int) : Prop := 0 < t ∧ 0 < u ∧ t * t - d * (u * u) = -4
/-- The square of the least one is the least one for 4. -/
theorem minus_square {d t u T U : Int} (hd5 : 5 ≤ d) (h : SolM d t u) (hmin : ∀ t' u', SolM d t' u' → u ≤ u') (hL : Least d T U) : t * u = U ∧ t * t + 2 = T := by
  have hd : 0 < d := by omega
  obtain ⟨ht, hu, hs⟩ := h
  have hsq : Sol d (t * t + 2) (t * u) := by
    refine ⟨by have := Int.mul_pos ht ht; omega, Int.mul_pos ht hu, ?_⟩
    have e : d * (u * u) = t * t + 4 := by omega
    have : d * (t * u * (t * u)) = t * t * (d * (u * u)) := by grind
    rw [this, e]
    grind
  have hle := hL.2 _ _ hsq
  obtain ⟨hT, hU, hLs⟩ := hL.1
  rcases (show U = t * u ∨ U < t * u by omega) with heq | hlt
  · refine ⟨heq.symm, ?_⟩
    rw [heq] at hL
    exact hsq.same hL.1
  · exfalso
    -- T < t t + 2
    have hTlt : T < t * t + 2 := by
      have e1 := hL.1.mono hd hsq hle
      refine lt_ne e1 fun e => ?_
      have h1 := hsq.2.2
      rw [← e] at h1
      have h2 : d * (U * U) = d * (t * u * (t * u)) := by omega
      have h3 := Int.eq_of_mul_eq_mul_left (by omega) h2
      have := eq_of_sq (by omega) (by omega) h3
      omega
    -- the quotient
    have par : ∃ b, u * T - t * U = 2 * b := by
      have e : (u * T - t * U) * (u * T + t * U) = 4 * (u * u + U * U) := by
        have k1 : T * T = d * (U * U) + 4 := by omega
        have k2 : t * t = d * (u * u) - 4 := by omega
        have : (u * T - t * U) * (u * T + t * U) = u * u * (T * T) - t * t * (U * U) := by grind
        rw [this, k1, k2]
        grind
      rcases (show (u * T - t * U) % 2 = 0 ∨ (u * T - t * U) % 2 = 1 by omega) with hp | hp
      · exact ⟨(u * T - t * U) / 2, by omega⟩
      · exfalso
        obtain ⟨x, hx⟩ : ∃ x, u * T - t * U = 2 * x + 1 := ⟨(u * T - t * U) / 2, by omega⟩
        have hy : u * T + t * U = 2 * (x + t * U) + 1 := by omega
        rw [hx, hy] at e
        have : (2 * x + 1) * (2 * (x + t * U) + 1) = 2 * (2 * (x * (x + t * U)) + x + (x + t * U)) + 1 := by grind
        omega
    obtain ⟨b, hb⟩ := par
    have k1 : T * T = d * (U * U) + 4 := by omega
    have k2 : t * t = d * (u * u) - 4 := by omega
    have hpos : (t * U) * (t * U) < (u * T) * (u * T) := by
      have e : (u * T) * (u * T) - (t * U) * (t * U) = 4 * (u * u) + 4 * (U * U) := by
        have : (u * T) * (u * T) - (t * U) * (t * U) = u * u * (T * T) - t * t * (U * U) := by grind
        rw [this, k1, k2]
        grind
      have := Int.mul_pos hu hu
      have := Int.mul_pos hU hU
      omega
    have hb0 : 0 < b := by
      have := lt_of_sq (show 0 ≤ u * T from Int.mul_nonneg (by omega) (by omega)) hpos
      omega
    -- b < u
    have hbu : b < u := by
      have e1 : u * (T - 2) < t * U := by
        refine lt_of_sq (Int.mul_nonneg (by omega) (by omega)) ?_
        have hd1 : d * ((u * (T - 2)) * (u * (T - 2))) < d * ((t * U) * (t * U)) := by
          have e2 : d * ((u * (T - 2)) * (u * (T - 2))) = (t * t + 4) * ((T - 2) * (T - 2)) := by
            have : d * ((u * (T - 2)) * (u * (T - 2))) = d * (u * u) * ((T - 2) * (T - 2)) := by grind
            rw [this, show d * (u * u) = t * t + 4 by omega]
          have e3 : d * ((t * U) * (t * U)) = t * t * ((T - 2) * (T + 2)) := by
            have : d * ((t * U) * (t * U)) = t * t * (d * (U * U)) := by grind
            rw [this, show d * (U * U) = T * T - 4 by omega]
            grind
          rw [e2, e3]
          have e4 : t * t * ((T - 2) * (T + 2)) - (t * t + 4) * ((T - 2) * (T - 2)) = (T - 2) * (4 * (t * t - (T - 2))) := by grind
          have hT2 : 0 < T - 2 := by
            have hUU := Int.mul_pos hd (Int.mul_pos hU hU)
            refine Int.lt_of_not_ge fun hle => ?_
            have := Int.mul_le_mul (show T ≤ 2 by omega) (show T ≤ 2 by omega) (by omega) (by omega)
            omega
          have := Int.mul_pos hT2 (show 0 < 4 * (t * t - (T - 2)) by omega)
          omega
        exact Int.lt_of_mul_lt_mul_left hd1 (by omega)
      have e5 : u * (T - 2) = u * T - 2 * u := by grind
      omega
    -- its first coordinate
    have para : ∃ a, t * T - d * (u * U) = 2 * a := by
      have e : (t * T - d * (u * U)) * (t * T - d * (u * U)) = d * ((2 * b) * (2 * b)) - 16 := by
        rw [← hb]
        have : (t * T - d * (u * U)) * (t * T - d * (u * U)) - d * ((u * T - t * U) * (u * T - t * U)) = (t * t - d * (u * u)) * (T * T - d * (U * U)) := by grind
        rw [hs, hLs] at this
        omega
      rcases (show (t * T - d * (u * U)) % 2 = 0 ∨ (t * T - d * (u * U)) % 2 = 1 by omega) with hp | hp
      · exact ⟨(t * T - d * (u * U)) / 2, by omega⟩
      · exfalso
        obtain ⟨x, hx⟩ : ∃ x, t * T - d * (u * U) = 2 * x + 1 := ⟨(t * T - d * (u * U)) / 2, by omega⟩
        rw [hx] at e
        have h1 : (2 * x + 1) * (2 * x + 1) = 2 * (2 * (x * x) + 2 * x) + 1 := by grind
        have h2 : d * (2 * b * (2 * b)) = 2 * (2 * (d * (b * b))) := by grind
        omega
    obtain ⟨a, hA⟩ := para
    have hab : a * a - d * (b * b) = -4 := by
      have e : (t * T - d * (u * U)) * (t * T - d * (u * U)) - d * ((u * T - t * U) * (u * T - t * U)) = (t * t - d * (u * u)) * (T * T - d * (U * U)) := by grind
      rw [hA, hb, hs, hLs] at e
      have : 2 * a * (2 * a) - d * (2 * b * (2 * b)) = 4 * (a * a - d * (b * b)) := by grind
      omega
    have ha0 : a ≠ 0 := by
      intro e
      subst e
      have h5 : d * (b * b) = 4 := by omega
      have h6 : 0 < b * b := Int.mul_pos hb0 hb0
      have := Int.mul_le_mul hd5 (show 1 ≤ b * b by omega) (by omega) (by omega)
      omega
    have hfin := hmin (a.natAbs : Int) b ⟨by omega, hb0, by
      have : ((a.natAbs : Int)) * (a.natAbs : Int) = a * a := by
        rcases Int.natAbs_eq a with e | e
        · rw [← e]
        · have e' : (a.natAbs : Int) = -a := by omega
          rw [e', Int.neg_mul_neg]
      rw [this]; exact hab⟩
    omega
end Go.Proofs.Ytemnkfigjpphgaa
