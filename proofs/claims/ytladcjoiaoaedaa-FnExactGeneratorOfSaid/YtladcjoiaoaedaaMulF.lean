/-
  Products of ideals: the facts that the walks need.
-/
import Derived.Test.YtladcjoiaoaedaaSumF
namespace Go.Proofs.Ytladcjoiaoaedaa
open Go.RowKit
/-- The generators of a product. -/
def mulL (d a b a' b' : Int) : List (Int × Int) := [(2 * a * a', 0), (-a * b', a), (-a' * b, a'), ((b * b' + d).tdiv 2, (-(b + b')).tdiv 2)]
theorem mul_gen {d a b a' b' : Int} (k : ∃ k, d % 2 - b = 2 * k) (k' : ∃ k, d % 2 - b' = 2 * k) (hc : (b * b - d) % (4 * a) = 0) (D : Int) (h : ∀ g ∈ mulL d a b a' b', D ∣ g.2) : ∀ g ∈ mulL d a b a' b', 2 * D ∣ g.1 + d % 2 * g.2 := by
  obtain ⟨k, hk⟩ := k
  obtain ⟨k', hk'⟩ := k'
  obtain ⟨c, hc⟩ := Int.dvd_of_emod_eq_zero hc
  generalize d % 2 = r at *
  have e1 : (-(b + b')).tdiv 2 = -(r - k - k') := tdiv2 (by omega)
  have e2 : (b * b' + d).tdiv 2 = b * (r - k - k') - 2 * (a * c) := tdiv2 (by
    have hb : b' = 2 * (r - k - k') - b := by omega
    rw [hb]; grind)
  obtain ⟨m, hm⟩ := h (-a * b', a) (by simp [mulL])
  obtain ⟨m', hm'⟩ := h (-a' * b, a') (by simp [mulL])
  obtain ⟨n, hn⟩ := h ((b * b' + d).tdiv 2, (-(b + b')).tdiv 2) (by simp [mulL])
  simp only at hm hm' hn
  rw [e1] at hn
  intro g hg
  simp only [mulL, List.mem_cons, List.not_mem_nil, or_false] at hg
  rcases hg with rfl | rfl | rfl | rfl
  · exact ⟨m * a', by grind⟩
  · exact ⟨m * k', by grind⟩
  · exact ⟨m' * k, by grind⟩
  · refine ⟨k * n - m * c, ?_⟩
    show (b * b' + d).tdiv 2 + r * (-(b + b')).tdiv 2 = _
    rw [e1, e2]
    have hb : b = r - 2 * k := by omega
    have hs : r - k - k' = -(D * n) := by omega
    rw [hs, hm, hb]
    grind
theorem iStep_top {n x y : Int} (h : y ≠ 0) : iStep (n, 0, 0) (x, y) = ((Int.gcd n 0 : Int), x, y) := by
  obtain ⟨f, hf⟩ : ∃ f, y.natAbs = f + 1 := ⟨y.natAbs - 1, by omega⟩
  have e : eucS y.natAbs 0 0 x y = (x, y, 0) := by
    rw [hf]
    simp only [eucS]
    rw [if_neg h]
    cases f <;> simp [eucS]
  simp [iStep, e]
theorem half_tdiv {K x : Int} (h : -(2 * K) ≤ x ∧ x ≤ 2 * K) : Bd K (x.tdiv 2) := by
  rcases Int.le_total 0 x with h0 | h0
  · rw [Int.tdiv_eq_ediv_of_nonneg h0]; exact ⟨by omega, by omega⟩
  · have e : (-x).tdiv 2 = -(x.tdiv 2) := Int.neg_tdiv x 2
    have e2 : (-x).tdiv 2 = (-x) / 2 := Int.tdiv_eq_ediv_of_nonneg (by omega)
    exact ⟨by omega, by omega⟩
theorem mul_facts {d e a b e' a' b' : Int} (h : idB d e a b = true) (h' : idB d e' a' b' = true) : 0 < 2 * a * a' ∧ Bd 210000000 (2 * a * a') ∧ Bd 210000000 (-a * b') ∧ Bd 210000000 (-a' * b) ∧ Bd 400000000 (b * b') ∧ Bd 210000000 ((b * b' + d).tdiv 2) ∧ Bd 20000 ((-(b + b')).tdiv 2) ∧ Bd 20000 a ∧ Bd 20000 a' ∧ 0 < a ∧ 0 < a' ∧ 0 ≤ b ∧ b ≤ 20000 ∧ 0 ≤ b' ∧ b' ≤ 20000 ∧ a ≤ 10000 ∧ a' ≤ 10000 ∧ -2000 ≤ d ∧ d < 0 := by
  obtain ⟨p0, p1, p2, p3, p4, p5, p6, p7⟩ := idB_true h
  obtain ⟨_, q1, q2, q3, q4, q5, q6, q7⟩ := idB_true h'
  obtain ⟨d1, d2, d3⟩ := negB_true p0
  obtain ⟨m1, m2⟩ := mul_bd (show Bd 20000 (2 * a) from ⟨by omega, by omega⟩) (show Bd 10000 a' from ⟨by omega, by omega⟩) (show (20000 : Int) * 10000 ≤ 210000000 by decide)
  obtain ⟨m3, m4⟩ := mul_bd (show Bd 10000 (-a) from ⟨by omega, by omega⟩) (show Bd 20000 b' from ⟨by omega, by omega⟩) (show (10000 : Int) * 20000 ≤ 210000000 by decide)
  obtain ⟨m5, m6⟩ := mul_bd (show Bd 10000 (-a') from ⟨by omega, by omega⟩) (show Bd 20000 b from ⟨by omega, by omega⟩) (show (10000 : Int) * 20000 ≤ 210000000 by decide)
  obtain ⟨m7, m8⟩ := mul_bd (show Bd 20000 b from ⟨by omega, by omega⟩) (show Bd 20000 b' from ⟨by omega, by omega⟩) (show (20000 : Int) * 20000 ≤ 400000000 by decide)
  have pos : 0 < 2 * a * a' := Int.mul_pos (by omega) (by omega)
  refine ⟨pos, ⟨m1, m2⟩, ⟨m3, m4⟩, ⟨m5, m6⟩, ⟨m7, m8⟩, half_tdiv ⟨by omega, by omega⟩, half_tdiv ⟨by omega, by omega⟩, ⟨by omega, by omega⟩, ⟨by omega, by omega⟩, by omega, by omega, by omega, by omega, by omega, by omega, by omega, by omega, by omega, by omega⟩
theorem mul_lf {d e a b e' a' b' : Int} (h : idB d e a b = true) (h' : idB d e' a' b' = true) : LF (mulL d a b a' b') ∧ lE (mulL d a b a' b') ≤ 20000 := by
  obtain ⟨pos, m1, m2, n1, _, n2, y4, y2, y3, ha, ha', _⟩ := mul_facts h h'
  obtain ⟨p0, _, _, _, _, _, _, p7⟩ := idB_true h
  obtain ⟨_, _, _, _, _, _, _, q7⟩ := idB_true h'
  obtain ⟨d1, d2, d3⟩ := negB_true p0
  have z0 : ∀ {k : Int}, 0 ≤ k → Bd k 0 := fun hk => bd00 hk
  have s1 : StA 210000000 20000 (2 * a * a') 0 0 := ⟨pos, m1.2, Int.le_refl _, pos, z0 (by omega)⟩
  obtain ⟨f2, s2⟩ := stA_fit s1 (by omega) (by omega) (by omega) (by omega) m2 y2
  obtain ⟨f3, s3⟩ := stA_fit s2 (by omega) (by omega) (by omega) (by omega) n1 y3
  obtain ⟨f4, s4⟩ := stA_fit s3 (by omega) (by omega) (by omega) (by omega) n2 y4
  have e1 : hStep (0, 0, 0) (2 * a * a', 0) = (2 * a * a', 0, 0) := first_flat pos
  have u1 : iStep (0, 0, 0) (2 * a * a', 0) = ((Int.gcd 0 (2 * a * a') : Int), 0, 0) := iStep_flat 0 0 0 _
  obtain ⟨k2, _, _⟩ := stS_fit (X := 0) (Y := 20000) (X' := 210000000) (S := 4200000000000) (n := (Int.gcd 0 (2 * a * a') : Int)) (U := 0) (V := 0) (x := -a * b') (y := a) (z0 (by omega)) (z0 (by omega)) m2 y2 (by omega) (by omega) (by omega) (by omega) (by omega) (by omega) (by omega) (by omega)
  have u2 : iStep ((Int.gcd 0 (2 * a * a') : Int), 0, 0) (-a * b', a) = ((Int.gcd (Int.gcd 0 (2 * a * a') : Int) 0 : Int), -a * b', a) := iStep_top (by omega)
  obtain ⟨k3, x3, w3⟩ := stS_fit (X := 210000000) (Y := 20000) (X' := 210000000) (S := 8400000000000) (n := (Int.gcd (Int.gcd 0 (2 * a * a') : Int) 0 : Int)) (x := -a' * b) (y := a') m2 y2 n1 y3 (by omega) (by omega) (by omega) (by omega) (by omega) (by omega) (by omega) (by omega)
  obtain ⟨k4, _, _⟩ := stS_fit (X := 16800000000000) (Y := 20000) (X' := 210000000) (S := 400000000000000000) (n := (iStep ((Int.gcd (Int.gcd 0 (2 * a * a') : Int) 0 : Int), -a * b', a) (-a' * b, a')).1) (x := (b * b' + d).tdiv 2) (y := (-(b + b')).tdiv 2) x3 w3 n2 y4 (by omega) (by omega) (by omega) (by omega) (by omega) (by omega) (by omega) (by omega)
  have eS : lS (mulL d a b a' b') = hStep (hStep (hStep (2 * a * a', 0, 0) (-a * b', a)) (-a' * b, a')) ((b * b' + d).tdiv 2, (-(b + b')).tdiv 2) := by
    show hStep (hStep (hStep (hStep (0, 0, 0) (2 * a * a', 0)) (-a * b', a)) (-a' * b, a')) ((b * b' + d).tdiv 2, (-(b + b')).tdiv 2) = _
    rw [e1]
  have hn : Nice (lS (mulL d a b a' b')).1 (lS (mulL d a b a' b')).2.1 (lS (mulL d a b a' b')).2.2 := by
    refine fold_nice (d % 2) _ (mul_gen (par p7 d3) (par q7 d3) p7) (-a * b', a) (by simp [mulL]) (by show a ≠ 0; omega) ?_
    have q : (mulL d a b a' b').foldl hStep (0, 0, 0) = _ := eS
    rw [q]
    exact Int.ne_of_gt s4.a0
  have hd := s4.hd
  refine ⟨⟨by simp [mulL], ?_, ?_, hn, ?_, ?_, ?_⟩, ?_⟩
  · intro k hk
    match k, hk with
    | 0, _ => exact first_fit (M := 210000000) 0 rfl m1 (by omega) (by omega)
    | 1, _ => show FitI (hStep (0, 0, 0) (2 * a * a', 0)).1 (hStep (0, 0, 0) (2 * a * a', 0)) (-a * b', a); rw [e1]; exact f2
    | 2, _ => show FitI (hStep (hStep (0, 0, 0) (2 * a * a', 0)) (-a * b', a)).1 (hStep (hStep (0, 0, 0) (2 * a * a', 0)) (-a * b', a)) (-a' * b, a'); rw [e1]; exact f3
    | 3, _ => show FitI (hStep (hStep (hStep (0, 0, 0) (2 * a * a', 0)) (-a * b', a)) (-a' * b, a')).1 (hStep (hStep (hStep (0, 0, 0) (2 * a * a', 0)) (-a * b', a)) (-a' * b, a')) ((b * b' + d).tdiv 2, (-(b + b')).tdiv 2); rw [e1]; exact f4
  · intro k hk
    match k, hk with
    | 0, _ => exact first_fit (M := 210000000) 0 rfl m1 (by omega) (by omega)
    | 1, _ => show FitI 0 (iStep (0, 0, 0) (2 * a * a', 0)) (-a * b', a); rw [u1]; exact k2
    | 2, _ => show FitI 0 (iStep (iStep (0, 0, 0) (2 * a * a', 0)) (-a * b', a)) (-a' * b, a'); rw [u1, u2]; exact k3
    | 3, _ => show FitI 0 (iStep (iStep (iStep (0, 0, 0) (2 * a * a', 0)) (-a * b', a)) (-a' * b, a')) ((b * b' + d).tdiv 2, (-(b + b')).tdiv 2); rw [u1, u2]; exact k4
  · rw [eS]; exact ⟨s4.b0, s4.ba⟩
  · rw [eS]; exact Int.le_trans s4.aM (by decide)
  · rw [eS]; exact abs_bd hd (by decide)
  · unfold lE; rw [eS]; exact abs_bd hd (by decide)
end Go.Proofs.Ytladcjoiaoaedaa
