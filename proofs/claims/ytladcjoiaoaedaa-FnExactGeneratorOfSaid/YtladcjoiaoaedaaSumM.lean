/-
  Sums and products of ideals: that the normal form of their generators is one of an ideal. Plain mathematics.
-/
import Derived.Test.YtladcjoiaoaedaaPrinM
namespace Go.Proofs.Ytladcjoiaoaedaa
theorem fold_lat {P : Int → Int → Prop} (hP : Lat P) (h0 : P 0 0) (l : List (Int × Int)) : ∀ s : Int × Int × Int, (∀ g ∈ l, P g.1 g.2) → P s.1 0 → P s.2.1 s.2.2 → P (l.foldl hStep s).1 0 ∧ P (l.foldl hStep s).2.1 (l.foldl hStep s).2.2 := by
  induction l with
  | nil => intro s _ h1 h2; exact ⟨h1, h2⟩
  | cons v l ih =>
    intro s hl h1 h2
    obtain ⟨a, b⟩ := lat_step hP h0 h1 h2 (hl v (by simp))
    exact ih _ (fun g hg => hl g (by simp [hg])) a b
theorem fold_dvd (l : List (Int × Int)) : ∀ s : Int × Int × Int, (l.foldl hStep s).2.2 ∣ s.2.2 ∧ ∀ g ∈ l, (l.foldl hStep s).2.2 ∣ g.2 := by
  induction l with
  | nil => intro s; exact ⟨Int.dvd_refl _, fun g hg => by simp at hg⟩
  | cons v l ih =>
    intro s
    obtain ⟨a, b⟩ := ih (hStep s v)
    obtain ⟨c, d⟩ := step_dvd s v
    refine ⟨Int.dvd_trans a c, fun g hg => ?_⟩
    rcases List.mem_cons.1 hg with rfl | hg
    · exact Int.dvd_trans a d
    · exact b g hg
theorem step_ne {s : Int × Int × Int} (h : s.1 ≠ 0) (v : Int × Int) : (hStep s v).1 ≠ 0 := by
  intro h0
  have : Int.gcd s.1 (eucI s.1 v.2.natAbs s.2.1 s.2.2 v.1 v.2).2.2 = 0 := by
    have : ((Int.gcd s.1 (eucI s.1 v.2.natAbs s.2.1 s.2.2 v.1 v.2).2.2 : Nat) : Int) = 0 := h0
    omega
  exact h (Int.gcd_eq_zero_iff.1 this).1
theorem fold_ne (l : List (Int × Int)) : ∀ s : Int × Int × Int, s.1 ≠ 0 → (l.foldl hStep s).1 ≠ 0 := by
  induction l with
  | nil => intro s h; exact h
  | cons v l ih => intro s h; exact ih _ (step_ne h v)
theorem fold_pos (l : List (Int × Int)) : ∀ s : Int × Int × Int, 0 ≤ s.1 → 0 ≤ (l.foldl hStep s).1 := by
  induction l with
  | nil => intro s h; exact h
  | cons v l ih => intro s h; exact ih _ (by show (0 : Int) ≤ (Int.gcd _ _ : Int); omega)
theorem fold_nice (r : Int) (l : List (Int × Int)) (hgen : ∀ e : Int, (∀ g ∈ l, e ∣ g.2) → ∀ g ∈ l, 2 * e ∣ g.1 + r * g.2) (g0 : Int × Int) (hg0 : g0 ∈ l) (hne : g0.2 ≠ 0) (ha : (l.foldl hStep (0, 0, 0)).1 ≠ 0) :
    Nice (l.foldl hStep (0, 0, 0)).1 (l.foldl hStep (0, 0, 0)).2.1 (l.foldl hStep (0, 0, 0)).2.2 := by
  obtain ⟨_, hd⟩ := fold_dvd l (0, 0, 0)
  have hpos := fold_pos l (0, 0, 0) (Int.le_refl _)
  have hd0 : (l.foldl hStep (0, 0, 0)).2.2 ≠ 0 := by
    intro h
    have := hd g0 hg0
    rw [h] at this
    exact hne (by simpa using this)
  have hL := fold_lat (P := fun x y => (l.foldl hStep (0, 0, 0)).2.2 ∣ y ∧ 2 * (l.foldl hStep (0, 0, 0)).2.2 ∣ x + r * y) (by
    rintro x y u v k ⟨⟨m, hm⟩, ⟨n, hn⟩⟩ ⟨⟨p, hp⟩, ⟨q, hq⟩⟩
    exact ⟨⟨m - k * p, by grind⟩, ⟨n - k * q, by grind⟩⟩) ⟨Int.dvd_zero _, by simp⟩ l (0, 0, 0) (fun g hg => ⟨hd g hg, hgen _ hd g hg⟩) ⟨Int.dvd_zero _, by simp⟩ ⟨Int.dvd_zero _, by simp⟩
  obtain ⟨⟨_, h1⟩, ⟨h2, h3⟩⟩ := hL
  rw [Int.mul_zero, Int.add_zero] at h1
  generalize (l.foldl hStep (0, 0, 0)) = s at *
  obtain ⟨a, b, dd⟩ := s
  simp only at *
  refine ⟨hd0, by omega, ?_, ?_⟩
  · rcases Int.natAbs_eq dd with e | e
    · rwa [← e]
    · have : (2 * (dd.natAbs : Int)) = -(2 * dd) := by omega
      rw [this]
      exact Int.neg_dvd.2 h1
  · have h4 : dd ∣ b := by
      have h5 : dd ∣ b + r * dd := Int.dvd_trans (Int.dvd_mul_left 2 dd) h3
      have := Int.dvd_sub h5 (Int.dvd_mul_left r dd)
      rwa [Int.add_sub_cancel] at this
    exact Int.natAbs_dvd.2 h4
/-- The parity of an ideal's second number. -/
theorem par {d a b : Int} (h : (b * b - d) % (4 * a) = 0) (h4 : d % 4 ≤ 1) : ∃ k, d % 2 - b = 2 * k := by
  obtain ⟨t, ht⟩ := Int.dvd_of_emod_eq_zero h
  have h1 : (b * b) % 4 = d % 4 := by
    have : b * b = d + 4 * (a * t) := by grind
    omega
  have h2 : b % 2 = d % 2 := by
    rcases (by omega : b % 4 = 0 ∨ b % 4 = 1 ∨ b % 4 = 2 ∨ b % 4 = 3) with e | e | e | e
    all_goals
      obtain ⟨m, hm⟩ : ∃ m, b = 4 * m + b % 4 := ⟨b / 4, by omega⟩
      rw [e] at hm
      have hb : b * b = 4 * (4 * (m * m) + 2 * m * (b % 4)) + (b % 4) * (b % 4) := by rw [e]; grind
      rw [e] at hb
      omega
  exact ⟨(d % 2 - b) / 2, by omega⟩
/-- The generators of a sum. -/
def sumL (e a b e' a' b' : Int) : List (Int × Int) := [(2 * e * a, 0), (-e * b, e), (2 * e' * a', 0), (-e' * b', e')]
theorem sum_gen {d e a b e' a' b' : Int} (k : ∃ k, d % 2 - b = 2 * k) (k' : ∃ k, d % 2 - b' = 2 * k) (D : Int) (h : ∀ g ∈ sumL e a b e' a' b', D ∣ g.2) : ∀ g ∈ sumL e a b e' a' b', 2 * D ∣ g.1 + d % 2 * g.2 := by
  obtain ⟨k, hk⟩ := k
  obtain ⟨k', hk'⟩ := k'
  obtain ⟨m, hm⟩ := h (-e * b, e) (by simp [sumL])
  obtain ⟨m', hm'⟩ := h (-e' * b', e') (by simp [sumL])
  simp only at hm hm'
  intro g hg
  simp only [sumL, List.mem_cons, List.not_mem_nil, or_false] at hg
  rcases hg with rfl | rfl | rfl | rfl
  · exact ⟨m * a, by grind⟩
  · exact ⟨m * k, by grind⟩
  · exact ⟨m' * a', by grind⟩
  · exact ⟨m' * k', by grind⟩
/-- Bounds along the program's way, once a is not 0. -/
structure StA (M Y a b d : Int) : Prop where
  a0 : 0 < a
  aM : a ≤ M
  b0 : 0 ≤ b
  ba : b < a
  hd : Bd Y d
theorem stA_fit {M Y a b d x y : Int} (h : StA M Y a b d) (hY : 0 ≤ Y) (hY4 : Y ≤ 4000000000000000000) (hM : M ≤ 4000000000000000000) (hb : Y * M + M ≤ 4000000000000000000) (hx : Bd M x) (hy : Bd Y y) : FitI a (a, b, d) (x, y) ∧ StA M Y (hStep (a, b, d) (x, y)).1 (hStep (a, b, d) (x, y)).2.1 (hStep (a, b, d) (x, y)).2.2 := by
  obtain ⟨a0, aM, b0, ba, hd⟩ := h
  have hS : HSide a Y 0 M := ⟨by omega, aM, hY, by omega, fun h => by omega, hM, hY4, fun _ => hb⟩
  have hI : HInv a Y 0 M b d x y := ⟨hd, hy, ⟨by omega, by omega⟩, hx, fun h => by omega⟩
  refine ⟨⟨Y, 0, M, hS, hI⟩, ?_⟩
  have e := eucI_inv hS y.natAbs b d x y hI (Nat.le_refl _)
  have g1 := Int.gcd_le_natAbs_left (eucI a y.natAbs b d x y).2.2 (show a ≠ 0 by omega)
  have g2 : (Int.gcd a (eucI a y.natAbs b d x y).2.2 : Nat) ≠ 0 := fun h => by
    have := (Int.gcd_eq_zero_iff.1 h).1
    omega
  have hr : red (Int.gcd a (eucI a y.natAbs b d x y).2.2 : Int) (eucI a y.natAbs b d x y).1 = (eucI a y.natAbs b d x y).1 % (Int.gcd a (eucI a y.natAbs b d x y).2.2 : Int) := by
    unfold red; rw [if_neg (by omega)]
  have r1 := Int.emod_nonneg (eucI a y.natAbs b d x y).1 (show (Int.gcd a (eucI a y.natAbs b d x y).2.2 : Int) ≠ 0 by omega)
  have r2 := Int.emod_lt_of_pos (eucI a y.natAbs b d x y).1 (show 0 < (Int.gcd a (eucI a y.natAbs b d x y).2.2 : Int) by omega)
  refine ⟨?_, ?_, ?_, ?_, e.hd⟩
  · show 0 < (Int.gcd a (eucI a y.natAbs b d x y).2.2 : Int); omega
  · show (Int.gcd a (eucI a y.natAbs b d x y).2.2 : Int) ≤ M; omega
  · show 0 ≤ red _ _; rw [hr]; exact r1
  · show red _ _ < _; rw [hr]; exact r2
/-- The first vector, of height 0. -/
theorem first_flat {x : Int} (hx : 0 < x) : hStep (0, 0, 0) (x, 0) = (x, 0, 0) := by
  rw [first_step, if_pos rfl]
  rw [show (x.natAbs : Int) = x by omega]
theorem first_fit {M x : Int} (m : Int) (hm : m = 0) (hx : Bd M x) (hM : M ≤ 4000000000000000000) (h0 : 0 ≤ M) : FitI m (0, 0, 0) (x, 0) := by
  subst hm
  exact ⟨0, 0, M, ⟨by omega, h0, by omega, by omega, by omega, hM, by omega, fun h => absurd rfl h⟩, ⟨bd00 (by omega), bd00 (by omega), bd00 h0, hx, fun _ => by simp⟩⟩
/-- Bounds along the reference's way. -/
theorem stS_fit {X Y X' S n U V x y : Int} (hU : Bd X U) (hV : Bd Y V) (hx : Bd X' x) (hy : Bd Y y) (hX : 0 ≤ X) (hX' : 0 ≤ X') (hY : 0 ≤ Y) (hY4 : Y ≤ 4000000000000000000) (hS : X * Y + X' * Y ≤ S) (hS4 : 2 * S ≤ 4000000000000000000) (hXS : X ≤ 2 * S) (hXS' : X' ≤ 2 * S) :
    FitI 0 (n, U, V) (x, y) ∧ Bd (2 * S) (iStep (n, U, V) (x, y)).2.1 ∧ Bd Y (iStep (n, U, V) (x, y)).2.2 := by
  have e1 := natMul_le hU hy hX
  have e2 := natMul_le hx hV hX'
  have q1 : 0 ≤ X * Y := Int.mul_nonneg hX hY
  have q2 : 0 ≤ X' * Y := Int.mul_nonneg hX' hY
  have side : HSide 0 Y S (2 * S) := ⟨by omega, by omega, hY, by omega, fun _ => by omega, hS4, hY4, fun h => absurd rfl h⟩
  have inv : HInv 0 Y S (2 * S) U V x y := ⟨hV, hy, hU.mono hXS, hx.mono hXS', fun _ => by push_cast at e1 e2 ⊢; omega⟩
  refine ⟨⟨Y, S, 2 * S, side, inv⟩, ?_⟩
  have e := eucI_inv side y.natAbs U V x y inv (Nat.le_refl _)
  rw [← eucS_eq] at e
  exact ⟨e.hb, e.hd⟩
theorem iStep_flat (n U V x : Int) : iStep (n, U, V) (x, 0) = ((Int.gcd n x : Int), U, V) := by simp [iStep, eucS]
end Go.Proofs.Ytladcjoiaoaedaa
