/-
  The product around the cycle of a primitive form is the automorph of the least solution, up to sign; powers of the least solution. Plain mathematics.
-/
import Derived.Test.YtemnkfigjpphgaaForm
namespace Go.Proofs.Ytemnkfigjpphgaa
/-- Primitive. -/
def Pri (f : Fm) : Prop := Nat.gcd (Nat.gcd f.1.natAbs f.2.1.natAbs) f.2.2.natAbs = 1
theorem pri_dvd {f : Fm} (h : Pri f) {x : Int} (h1 : f.1 ∣ f.2.1 * x) (h2 : f.1 ∣ f.2.2 * x) : f.1 ∣ x := by
  have k0 : f.1.natAbs ∣ f.1.natAbs * x.natAbs := Nat.dvd_mul_right _ _
  have k1 : f.1.natAbs ∣ f.2.1.natAbs * x.natAbs := by rw [← Int.natAbs_mul]; exact Int.natAbs_dvd_natAbs.2 h1
  have k2 : f.1.natAbs ∣ f.2.2.natAbs * x.natAbs := by rw [← Int.natAbs_mul]; exact Int.natAbs_dvd_natAbs.2 h2
  have k3 := Nat.dvd_gcd (Nat.dvd_gcd k0 k1) k2
  rw [Nat.gcd_mul_right, Nat.gcd_mul_right] at k3
  unfold Pri at h
  rw [h, Nat.one_mul] at k3
  exact Int.natAbs_dvd_natAbs.1 k3
/-- With a positive first coefficient. -/
theorem unit_pos {r : Int} {f : Fm} (h : Cy r f) (hr : Rt r (fdisc f)) (ha : 0 < f.1) (hp : Pri f) {n : Nat} (hn : 0 < n) (hk : ∀ k, 0 < k → k < n → nbn r k f ≠ f) (hret : nbn r n f = f) :
    ∃ p U, Least (fdisc f) (2 * p + f.2.1 * U) U ∧ (nmn r n f = autM f p U ∨ nmn r n f = mneg (autM f p U)) := by
  obtain ⟨k, hke⟩ : ∃ k, n = 2 * k ∨ n = 2 * k + 1 := ⟨n / 2, by omega⟩
  obtain ⟨e1, e2, e3, e4⟩ := doubles k f h hr ha
  obtain ⟨c1, c2⟩ := h.nth (2 * k) hr
  have hn2 : n = 2 * k := by
    rcases hke with hke | hke
    · exact hke
    · exfalso
      have := (sign_next c1 c2).1 e3
      rw [← nbn_succ, ← hke, hret] at this
      omega
  subst hn2
  have hm1 := e4 (by omega)
  have hW : rvn (lts r k f) f = f := by rw [e1, hret]
  have hnn := rm_nn (lts r k f) f
  have hfix : fact f (rm (lts r k f) f) = f := by rw [fact_rm]; exact hW
  obtain ⟨w1, w2⟩ := word_aut hfix hnn.d
  have hdv : f.1 ∣ (rm (lts r k f) f).2.2.1 := by
    refine pri_dvd hp ⟨_, w1.symm⟩ ⟨-(rm (lts r k f) f).2.1, ?_⟩
    rw [Int.mul_neg, w2, Int.neg_neg]
  obtain ⟨U, hU⟩ := hdv
  obtain ⟨s1, s2⟩ := word_sol hfix hnn.d (by omega) hU
  obtain ⟨d1, d2⟩ := hnn.diag
  obtain ⟨hc, hside, _⟩ := h.side hr ha
  have hr1 : 1 ≤ (rm (lts r k f) f).2.2.1 := by
    obtain ⟨m, hm⟩ : ∃ m, lts r k f = m + 1 := ⟨lts r k f - 1, by omega⟩
    rw [hm]
    show 1 ≤ (mm (rx f) (rm m (rv f))).2.2.1
    have hx : rx f = mL := by unfold rx; rw [if_neg (by omega)]
    obtain ⟨k1, _⟩ := (rm_nn m (rv f)).diag
    have k2 := (rm_nn m (rv f)).r
    rw [hx]
    show 1 ≤ 1 * (rm m (rv f)).1 + 1 * (rm m (rv f)).2.2.1
    omega
  have hU1 : 0 < U := by
    refine Int.lt_of_not_ge fun hle => ?_
    have := Int.mul_nonpos_of_nonneg_of_nonpos (show 0 ≤ f.1 by omega) hle
    omega
  refine ⟨(rm (lts r k f) f).1, U, ⟨⟨?_, hU1, ?_⟩, ?_⟩, ?_⟩
  · have : (rm (lts r k f) f).2.2.2 = (rm (lts r k f) f).1 + f.2.1 * U := congrArg (fun M : Mt => M.2.2.2) s1
    omega
  · have : (rm (lts r k f) f).2.2.2 = (rm (lts r k f) f).1 + f.2.1 * U := congrArg (fun M : Mt => M.2.2.2) s1
    rw [this] at s2
    rw [show 2 * (rm (lts r k f) f).1 + f.2.1 * U = (rm (lts r k f) f).1 + ((rm (lts r k f) f).1 + f.2.1 * U) by omega]
    exact s2
  · rintro t u ⟨ht, hu, hs⟩
    obtain ⟨p, N, g1, g2, g3, g4, g5⟩ := sol_ge h hr ha (n := k) (fun i h1 h2 => hk (2 * i) (by omega) (by omega)) ht hu hs
    obtain ⟨_, _, q3, _⟩ := rm_le g5 f
    rw [← g2, hU] at q3
    exact Int.le_of_mul_le_mul_left q3 ha
  · rcases e2 with e2 | e2
    · exact .inl (by rw [e2]; exact s1)
    · exact .inr (by rw [e2]; exact congrArg mneg s1)
/-- The form with the outer signs turned. -/
def tn (f : Fm) : Fm := (-f.1, f.2.1, -f.2.2)
def cj (M : Mt) : Mt := (M.1, -M.2.1, -M.2.2.1, M.2.2.2)
theorem tn_tn (f : Fm) : tn (tn f) = f := by simp [tn]
theorem cj_cj (M : Mt) : cj (cj M) = M := by simp [cj]
theorem cj_mm (M N : Mt) : cj (mm M N) = mm (cj M) (cj N) := by
  refine Prod.ext ?_ (Prod.ext ?_ (Prod.ext ?_ ?_)) <;> simp only [cj, mm] <;> grind
theorem cj_neg (M : Mt) : cj (mneg M) = mneg (cj M) := by simp [cj, mneg]
theorem tn_disc (f : Fm) : fdisc (tn f) = fdisc f := by simp only [fdisc, tn]; grind
theorem tn_cy {r : Int} {f : Fm} (h : Cy r f) : Cy r (tn f) := by
  obtain ⟨a, b, c, d⟩ := h
  exact ⟨a, b, by simpa [tn] using c, by simpa [tn] using d⟩
theorem tn_step {r : Int} {f : Fm} (hc : f.2.2 ≠ 0) : nb r (tn f) = tn (nb r f) ∧ nm r (tn f) = mneg (cj (nm r f)) := by
  have hj : nj r (tn f) = nj r f := by unfold nj; simp [tn]
  constructor
  · rw [nb_val, nb_val, hj]
    by_cases h : f.2.2 < 0
    · rw [if_pos h, if_neg (show ¬ (tn f).2.2 < 0 by simp only [tn]; omega)]
      refine Prod.ext rfl (Prod.ext ?_ ?_)
      · simp [tn]
      · simp only [tn]; grind
    · rw [if_neg h, if_pos (show (tn f).2.2 < 0 by simp only [tn]; omega)]
      refine Prod.ext rfl (Prod.ext ?_ ?_)
      · simp [tn]
      · simp only [tn]; grind
  · unfold nm
    rw [hj]
    by_cases h : f.2.2 < 0
    · rw [if_pos h, if_neg (show ¬ (tn f).2.2 < 0 by simp only [tn]; omega)]
      simp [mneg, cj]
    · rw [if_neg h, if_pos (show (tn f).2.2 < 0 by simp only [tn]; omega)]
      simp [mneg, cj]
theorem tn_steps {r : Int} : ∀ (n : Nat) (f : Fm), Cy r f → Rt r (fdisc f) → nbn r n (tn f) = tn (nbn r n f) ∧ (nmn r n (tn f) = cj (nmn r n f) ∨ nmn r n (tn f) = mneg (cj (nmn r n f)))
  | 0, f, _, _ => ⟨rfl, .inl rfl⟩
  | n + 1, f, h, hr => by
    obtain ⟨a, b⟩ := tn_step (r := r) (outer hr).2
    obtain ⟨c1, _, c2⟩ := h.next hr
    obtain ⟨e1, e2⟩ := tn_steps n (nb r f) c1 c2
    refine ⟨?_, ?_⟩
    · show nbn r n (nb r (tn f)) = _
      rw [a, e1]; rfl
    · show mm (nm r (tn f)) (nmn r n (nb r (tn f))) = cj (mm (nm r f) (nmn r n (nb r f))) ∨ mm (nm r (tn f)) (nmn r n (nb r (tn f))) = mneg (cj (mm (nm r f) (nmn r n (nb r f))))
      rw [a, b, cj_mm]
      rcases e2 with e2 | e2
      · exact .inr (by rw [e2, neg_mm])
      · exact .inl (by rw [e2, neg_mm, mm_neg, mneg_mneg])
/-- The product around the cycle. -/
theorem unit_of {r : Int} {f : Fm} (h : Cy r f) (hr : Rt r (fdisc f)) (hp : Pri f) {n : Nat} (hn : 0 < n) (hk : ∀ k, 0 < k → k < n → nbn r k f ≠ f) (hret : nbn r n f = f) :
    ∃ p U, Least (fdisc f) (2 * p + f.2.1 * U) U ∧ (nmn r n f = autM f p U ∨ nmn r n f = mneg (autM f p U)) := by
  have ha := (outer hr).1
  rcases (show 0 < f.1 ∨ f.1 < 0 by omega) with ha | ha
  · exact unit_pos h hr ha hp hn hk hret
  · have hst := fun n => tn_steps n f h hr
    obtain ⟨p, U, h1, h2⟩ := unit_pos (f := tn f) (n := n) (tn_cy h) (by rw [tn_disc]; exact hr) (by simp only [tn]; omega) (by simpa [Pri, tn] using hp) hn
      (fun k k1 k2 he => hk k k1 k2 (by rw [(hst k).1] at he; have := congrArg tn he; rwa [tn_tn, tn_tn] at this)) (by rw [(hst n).1, hret])
    rw [tn_disc] at h1
    have hau : cj (autM (tn f) p U) = autM f p U := by
      refine Prod.ext ?_ (Prod.ext ?_ (Prod.ext ?_ ?_)) <;> simp only [cj, autM, tn] <;> grind
    refine ⟨p, U, h1, ?_⟩
    have hM : ∀ N : Mt, nmn r n (tn f) = N → (nmn r n f = cj N ∨ nmn r n f = mneg (cj N)) := by
      intro N e
      rcases (hst n).2 with e2 | e2
      · exact .inl (by rw [← e, e2, cj_cj])
      · exact .inr (by rw [← e, e2, cj_neg, cj_cj, mneg_mneg])
    rcases h2 with h2 | h2
    · have := hM _ h2
      rwa [hau] at this
    · have := hM _ h2
      rw [cj_neg, hau, mneg_mneg] at this
      exact this.symm
/-- Powers. -/
def pwT (d T U : Int) : Nat → Int × Int
  | 0 => (2, 0)
  | k + 1 => (((pwT d T U k).1 * T + d * (pwT d T U k).2 * U) / 2, ((pwT d T U k).1 * U + (pwT d T U k).2 * T) / 2)
theorem sol_par {d t u t' u' e e' : Int} (h : t * t - d * (u * u) = 4 * e) (h' : t' * t' - d * (u' * u') = 4 * e') : (t * t' + d * u * u') % 2 = 0 ∧ (t * u' + u * t') % 2 = 0 := by
  have hd : d % 2 = 0 ∨ d % 2 = 1 := by omega
  have key : ∀ {t u e : Int}, t * t - d * (u * u) = 4 * e → (t % 2 = (d * u) % 2) := by
    intro t u e h
    have h1 : (t * t - d * (u * u)) % 2 = 0 := by rw [h]; omega
    rcases hd with hd | hd
    · obtain ⟨m, rfl⟩ : ∃ m, d = 2 * m := ⟨d / 2, by omega⟩
      have h2 : t * t - 2 * m * (u * u) = t * t - 2 * (m * (u * u)) := by grind
      have h3 : 2 * m * u = 2 * (m * u) := by grind
      rw [h2] at h1
      rw [h3]
      rcases (show t % 2 = 0 ∨ t % 2 = 1 by omega) with ht | ht
      · omega
      · obtain ⟨x, rfl⟩ : ∃ x, t = 2 * x + 1 := ⟨t / 2, by omega⟩
        have : (2 * x + 1) * (2 * x + 1) = 2 * (2 * (x * x) + 2 * x) + 1 := by grind
        omega
    · obtain ⟨m, rfl⟩ : ∃ m, d = 2 * m + 1 := ⟨d / 2, by omega⟩
      rcases (show t % 2 = 0 ∨ t % 2 = 1 by omega) with ht | ht <;> rcases (show u % 2 = 0 ∨ u % 2 = 1 by omega) with hu | hu
      · obtain ⟨y, rfl⟩ : ∃ y, u = 2 * y := ⟨u / 2, by omega⟩
        have : (2 * m + 1) * (2 * y) = 2 * ((2 * m + 1) * y) := by grind
        omega
      · exfalso
        obtain ⟨x, rfl⟩ : ∃ x, t = 2 * x := ⟨t / 2, by omega⟩
        obtain ⟨y, rfl⟩ : ∃ y, u = 2 * y + 1 := ⟨u / 2, by omega⟩
        have e1 : 2 * x * (2 * x) - (2 * m + 1) * ((2 * y + 1) * (2 * y + 1)) = 2 * (2 * (x * x) - m * ((2 * y + 1) * (2 * y + 1)) - 2 * (y * y) - 2 * y) - 1 := by grind
        omega
      · exfalso
        obtain ⟨x, rfl⟩ : ∃ x, t = 2 * x + 1 := ⟨t / 2, by omega⟩
        obtain ⟨y, rfl⟩ : ∃ y, u = 2 * y := ⟨u / 2, by omega⟩
        have e1 : (2 * x + 1) * (2 * x + 1) - (2 * m + 1) * (2 * y * (2 * y)) = 2 * (2 * (x * x) + 2 * x - (2 * m + 1) * (2 * (y * y))) + 1 := by grind
        omega
      · obtain ⟨y, rfl⟩ : ∃ y, u = 2 * y + 1 := ⟨u / 2, by omega⟩
        have : (2 * m + 1) * (2 * y + 1) = 2 * (m * (2 * y + 1) + y) + 1 := by grind
        omega
  have k1 := key h
  have k2 := key h'
  obtain ⟨x, hx⟩ : ∃ x, t = d * u + 2 * x := ⟨(t - d * u) / 2, by omega⟩
  obtain ⟨y, hy⟩ : ∃ y, t' = d * u' + 2 * y := ⟨(t' - d * u') / 2, by omega⟩
  have hdd : ∃ z, d * d + d = 2 * z := by
    rcases hd with hd | hd
    · obtain ⟨m, rfl⟩ : ∃ m, d = 2 * m := ⟨d / 2, by omega⟩
      exact ⟨2 * (m * m) + m, by grind⟩
    · obtain ⟨m, rfl⟩ : ∃ m, d = 2 * m + 1 := ⟨d / 2, by omega⟩
      exact ⟨2 * (m * m) + 3 * m + 1, by grind⟩
  obtain ⟨z, hz⟩ := hdd
  constructor
  · have e1 : t * t' + d * u * u' = 2 * (d * u * y + x * d * u' + 2 * x * y) + (d * d + d) * (u * u') := by rw [hx, hy]; grind
    have e2 : 2 * z * (u * u') = 2 * (z * (u * u')) := by grind
    rw [e1, hz, e2]; omega
  · have e1 : t * u' + u * t' = 2 * (d * u * u' + x * u' + u * y) := by rw [hx, hy]; grind
    rw [e1]; omega
theorem sol_prod {d t u t' u' : Int} (e e' : Int) (h : t * t - d * (u * u) = 4 * e) (h' : t' * t' - d * (u' * u') = 4 * e') :
    (t * t' + d * u * u') / 2 * ((t * t' + d * u * u') / 2) - d * ((t * u' + u * t') / 2 * ((t * u' + u * t') / 2)) = 4 * (e * e') := by
  obtain ⟨p1, p2⟩ := sol_par h h'
  obtain ⟨X, hX⟩ : ∃ X, t * t' + d * u * u' = 2 * X := ⟨(t * t' + d * u * u') / 2, by omega⟩
  obtain ⟨Y, hY⟩ : ∃ Y, t * u' + u * t' = 2 * Y := ⟨(t * u' + u * t') / 2, by omega⟩
  rw [hX, hY, show 2 * X / 2 = X by omega, show 2 * Y / 2 = Y by omega]
  have e1 : (t * t' + d * u * u') * (t * t' + d * u * u') - d * ((t * u' + u * t') * (t * u' + u * t')) = (t * t - d * (u * u)) * (t' * t' - d * (u' * u')) := by grind
  rw [hX, hY, h, h'] at e1
  have e2 : 2 * X * (2 * X) - d * (2 * Y * (2 * Y)) = 4 * (X * X - d * (Y * Y)) := by grind
  have e3 : 4 * e * (4 * e') = 16 * (e * e') := by grind
  omega
/-- Powers are solutions, and grow. -/
theorem pw_sol {d T U : Int} (hd : 5 ≤ d) (h : Sol d T U) : ∀ k, (pwT d T U k).1 * (pwT d T U k).1 - d * ((pwT d T U k).2 * (pwT d T U k).2) = 4 ∧ 2 ≤ (pwT d T U k).1 ∧ 0 ≤ (pwT d T U k).2 ∧ (pwT d T U k).2 < (pwT d T U (k + 1)).2
  | 0 => by
    obtain ⟨h1, h2, h3⟩ := h
    refine ⟨by simp [pwT], by simp [pwT], by simp [pwT], ?_⟩
    simp only [pwT]
    omega
  | k + 1 => by
    obtain ⟨a1, a2, a3, a4⟩ := pw_sol hd h k
    have hs := h
    obtain ⟨h1, h2, h3⟩ := h
    have hT3 : 3 ≤ T := by
      refine Int.le_of_not_gt fun hlt => ?_
      have e1 : T * T ≤ 4 := by
        have := Int.mul_le_mul (show T ≤ 2 by omega) (show T ≤ 2 by omega) (by omega) (by omega)
        omega
      have e2 := Int.mul_pos h2 h2
      have e3 := Int.mul_le_mul hd (show 1 ≤ U * U by omega) (by omega) (by omega)
      omega
    have hp := sol_prod 1 1 (by rw [a1]; rfl) (by rw [h3]; rfl)
    have hu : 0 ≤ (pwT d T U (k + 1)).2 := by omega
    have hstep : ∀ t u : Int, t * t - d * (u * u) = 4 → 0 ≤ t → 0 ≤ u → u < (t * U + u * T) / 2 := by
      intro t u e1 e2 e3
      have ht : 2 ≤ t := by
        refine Int.le_of_not_gt fun hlt => ?_
        have k1 := Int.mul_le_mul (show t ≤ 1 by omega) (show t ≤ 1 by omega) e2 (by omega)
        have k2 := Int.mul_nonneg (show 0 ≤ d by omega) (Int.mul_nonneg e3 e3)
        omega
      have k3 := Int.mul_le_mul ht (show 1 ≤ U by omega) (by omega) (by omega)
      have k4 := Int.mul_le_mul_of_nonneg_left hT3 e3
      omega
    have hT0 : 0 ≤ (pwT d T U (k + 1)).1 := by
      simp only [pwT]
      have k1 := Int.mul_nonneg (show 0 ≤ (pwT d T U k).1 by omega) (show 0 ≤ T by omega)
      have k2 := Int.mul_nonneg (Int.mul_nonneg (show 0 ≤ d by omega) a3) (show 0 ≤ U by omega)
      omega
    have hsol : (pwT d T U (k + 1)).1 * (pwT d T U (k + 1)).1 - d * ((pwT d T U (k + 1)).2 * (pwT d T U (k + 1)).2) = 4 := by
      simpa [pwT] using hp
    refine ⟨hsol, ?_, hu, ?_⟩
    · refine Int.le_of_not_gt fun hlt => ?_
      have k1 := Int.mul_le_mul (show (pwT d T U (k + 1)).1 ≤ 1 by omega) (show (pwT d T U (k + 1)).1 ≤ 1 by omega) hT0 (by omega)
      have k2 := Int.mul_nonneg (show 0 ≤ d by omega) (Int.mul_nonneg hu hu)
      omega
    · exact hstep _ _ hsol hT0 hu
theorem pw_one {d T U : Int} : pwT d T U 1 = (T, U) := by
  simp only [pwT]
  refine Prod.ext ?_ ?_ <;> simp only <;> omega
theorem pw_mono {d T U : Int} (hd : 5 ≤ d) (h : Sol d T U) {i j : Nat} (hij : i < j) : (pwT d T U i).2 < (pwT d T U j).2 := by
  obtain ⟨k, rfl⟩ : ∃ k, j = i + 1 + k := ⟨j - (i + 1), by omega⟩
  clear hij
  induction k with
  | zero => exact (pw_sol hd h i).2.2.2
  | succ k ih => exact Int.lt_trans ih (pw_sol hd h (i + 1 + k)).2.2.2
end Go.Proofs.Ytemnkfigjpphgaa
