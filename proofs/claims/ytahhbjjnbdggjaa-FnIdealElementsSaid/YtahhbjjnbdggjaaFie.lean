/-
  What FnIdealElements asks of numbers: lattices and their normal forms generate each other; norms; sums and products. Plain mathematics.
-/
import Derived.Test.YtahhbjjnbdggjaaLgn
import Derived.Test.YtahhbjjnbdggjaaSum
import Derived.Test.YtahhbjjnbdggjaaMulS
namespace Go.Proofs.Ytahhbjjnbdggjaa
theorem ci_in {d e a b e' a' b' : Int} (h : idB d e a b = true) (h' : idB d e' a' b' = true) : ciB d e a b e' a' b' = true ↔ (InI e a b (2 * e' * a') 0 ∧ InI e a b (-e' * b') e') := by
  obtain ⟨-, h1, -⟩ := idB_true h
  unfold ciB
  rw [h, h']
  simp only [Bool.and_self, Bool.true_and, Bool.and_eq_true, ih_in h1]
theorem pr_contains {d e a b u v : Int} (h : idB d e a b = true) (he : elB d u v = true) (hok : prOk d u v = true) : ciB d e a b (pE d u v) (pA d u v) (pB d u v) = ihB e a b u v := by
  simp only [prOk, prB, Bool.and_eq_true, Bool.not_eq_true', Bool.and_eq_false_iff, decide_eq_false_iff_not] at hok
  obtain ⟨⟨⟨hn, -⟩, h0⟩, hid⟩ := hok
  have hf := prF hn he h0
  have hp := (of_decide_eq_true he).2
  obtain ⟨-, h1, -⟩ := idB_true h
  have hs := pr_span (InI.lat e a b) (InI.zero e a b) hf
  have hc := ci_in h hid
  rw [hs] at hc
  have hx : (InI e a b u v ∧ InI e a b (pr2 d u v) (pr3 d u v)) ↔ InI e a b u v := ⟨fun h => h.1, fun hi => ⟨hi, in_times h hp h0 hi⟩⟩
  rw [hx, ← ih_in h1] at hc
  rw [Bool.eq_iff_iff]
  exact hc
theorem pr_norm {d u v : Int} (hn : negB d = true) (he : elB d u v = true) (hok : prOk d u v = true) : 4 * (pE d u v * pE d u v * pA d u v) = u * u - d * (v * v) := by
  simp only [prOk, prB, Bool.and_eq_true, Bool.not_eq_true', Bool.and_eq_false_iff, decide_eq_false_iff_not] at hok
  obtain ⟨⟨⟨-, -⟩, h0⟩, hid⟩ := hok
  have hf := prF hn he h0
  have hp := (of_decide_eq_true he).2
  obtain ⟨d1, d2, d3⟩ := negB_true hn
  have g := gens_of (by omega) d3 hp h0
  exact prF_norm hf g
/-- Sums contain both. -/
theorem self_in {e a b : Int} : InI e a b (2 * e * a) 0 ∧ InI e a b (-e * b) e :=
  ⟨⟨2 * a, 0, 1, by grind, by grind, by grind⟩, ⟨-b, 1, 0, by grind, by grind, by grind⟩⟩
theorem sum_contains {d e a b e' a' b' : Int} (hok : smOk d e a b e' a' b' = true) :
    ciB d (lE (sumL e a b e' a' b')) (lA (sumL e a b e' a' b')) (lB (sumL e a b e' a' b')) e a b = true ∧ ciB d (lE (sumL e a b e' a' b')) (lA (sumL e a b e' a' b')) (lB (sumL e a b e' a' b')) e' a' b' = true := by
  simp only [smOk, smB, Bool.and_eq_true] at hok
  obtain ⟨⟨h, h'⟩, hs⟩ := hok
  have hl := sum_lf h h'
  have hsp := (span_iff (InI.lat _ _ _) (InI.zero _ _ _) (sumL e a b e' a' b') hl.nice).1 (self_in (e := lE (sumL e a b e' a' b')) (a := lA (sumL e a b e' a' b')) (b := lB (sumL e a b e' a' b')))
  simp only [sumL, List.mem_cons, List.not_mem_nil, or_false, forall_eq_or_imp, forall_eq] at hsp
  obtain ⟨s1, s2, s3, s4⟩ := hsp
  exact ⟨(ci_in hs h).2 ⟨s1, s2⟩, (ci_in hs h').2 ⟨s3, s4⟩⟩
/-- Both contain their product. -/
theorem InI.scale {a b u v : Int} (e f : Int) (h : InI 1 a b u v) : InI e a b (e * f * u) (e * f * v) := by
  obtain ⟨i, j, k, rfl, rfl, h3⟩ := h
  exact ⟨f * i, f * j, f * k, by grind, by grind, by grind⟩
theorem mul_contains {d e a b e' a' b' : Int} (hok : muOk d e a b e' a' b' = true) :
    ciB d e a b (muE d e a b e' a' b') (lA (mulL d a b a' b')) (lB (mulL d a b a' b')) = true ∧ ciB d e' a' b' (muE d e a b e' a' b') (lA (mulL d a b a' b')) (lB (mulL d a b a' b')) = true := by
  simp only [muOk, muB, Bool.and_eq_true] at hok
  obtain ⟨⟨h, h'⟩, hs⟩ := hok
  have hl := (mul_lf h h').1
  obtain ⟨hn, -, -, -, -, -, -, h8⟩ := idB_true h
  obtain ⟨-, -, -, -, -, -, -, h8'⟩ := idB_true h'
  obtain ⟨d1, d2, d3⟩ := negB_true hn
  obtain ⟨q, hq⟩ := par h8 d3
  obtain ⟨q', hq'⟩ := par h8' d3
  obtain ⟨c, hc⟩ := Int.dvd_of_emod_eq_zero h8
  obtain ⟨c', hc'⟩ := Int.dvd_of_emod_eq_zero h8'
  have hm2 : ∃ m, d = 2 * m + d % 2 := ⟨d / 2, by omega⟩
  obtain ⟨m, hm⟩ := hm2
  have hd4 : ∃ c4, d - d % 2 = 4 * c4 := ⟨d / 4, by omega⟩
  obtain ⟨c4, hc4⟩ := hd4
  have hrr : d % 2 * (d % 2) = d % 2 := by rcases (show d % 2 = 0 ∨ d % 2 = 1 by omega) with e | e <;> rw [e] <;> rfl
  generalize d % 2 = r at *
  have hb : b = r - 2 * q := by omega
  have hb' : b' = r - 2 * q' := by omega
  have t2 : (-(b + b')).tdiv 2 = -(r - q - q') := tdiv2 (by omega)
  have t1 : (b * b' + d).tdiv 2 = r - r * q - r * q' + 2 * q * q' + 2 * c4 := tdiv2 (by rw [hb, hb', show d = r + 4 * c4 by omega]; grind)
  have k1 : r * q - q * q + c4 + a * c = 0 := by
    have := hc; rw [hb, show d = r + 4 * c4 by omega] at this; grind
  have k2 : r * q' - q' * q' + c4 + a' * c' = 0 := by
    have := hc'; rw [hb', show d = r + 4 * c4 by omega] at this; grind
  have g1 : ∀ g ∈ mulL d a b a' b', InI 1 a b g.1 g.2 := by
    simp only [mulL, List.mem_cons, List.not_mem_nil, or_false, forall_eq_or_imp, forall_eq]
    rw [t1, t2]
    refine ⟨⟨_, _, a', (Int.one_mul _).symm, (Int.one_mul _).symm, by grind⟩, ⟨_, _, q' - q, (Int.one_mul _).symm, (Int.one_mul _).symm, by grind⟩, ⟨_, _, 0, (Int.one_mul _).symm, (Int.one_mul _).symm, by grind⟩, ⟨_, _, -c, (Int.one_mul _).symm, (Int.one_mul _).symm, by grind⟩⟩
  have g2 : ∀ g ∈ mulL d a b a' b', InI 1 a' b' g.1 g.2 := by
    simp only [mulL, List.mem_cons, List.not_mem_nil, or_false, forall_eq_or_imp, forall_eq]
    rw [t1, t2]
    refine ⟨⟨_, _, a, (Int.one_mul _).symm, (Int.one_mul _).symm, by grind⟩, ⟨_, _, 0, (Int.one_mul _).symm, (Int.one_mul _).symm, by grind⟩, ⟨_, _, q - q', (Int.one_mul _).symm, (Int.one_mul _).symm, by grind⟩, ⟨_, _, -c', (Int.one_mul _).symm, (Int.one_mul _).symm, by grind⟩⟩
  obtain ⟨s1, s2⟩ := (span_iff (InI.lat _ _ _) (InI.zero _ _ _) _ hl.nice).2 g1
  obtain ⟨s3, s4⟩ := (span_iff (InI.lat _ _ _) (InI.zero _ _ _) _ hl.nice).2 g2
  have hE : muE d e a b e' a' b' = lE (mulL d a b a' b') * (e * e') := rfl
  generalize lE (mulL d a b a' b') = E at *
  generalize lA (mulL d a b a' b') = A at *
  generalize lB (mulL d a b a' b') = B at *
  rw [hE] at hs ⊢
  refine ⟨(ci_in h hs).2 ⟨?_, ?_⟩, (ci_in h' hs).2 ⟨?_, ?_⟩⟩
  · have := s1.scale e e'
    rwa [show e * e' * (2 * E * A) = 2 * (E * (e * e')) * A by grind, Int.mul_zero] at this
  · have := s2.scale e e'
    rwa [show e * e' * (-E * B) = -(E * (e * e')) * B by grind, show e * e' * E = E * (e * e') by grind] at this
  · have := s3.scale e' e
    rwa [show e' * e * (2 * E * A) = 2 * (E * (e * e')) * A by grind, Int.mul_zero] at this
  · have := s4.scale e' e
    rwa [show e' * e * (-E * B) = -(E * (e * e')) * B by grind, show e' * e * E = E * (e * e') by grind] at this
end Go.Proofs.Ytahhbjjnbdggjaa
