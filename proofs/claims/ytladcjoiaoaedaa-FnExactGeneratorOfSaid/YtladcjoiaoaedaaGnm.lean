/-
  What GeneratorOf asks of numbers: reduced forms, values, and which elements generate an ideal. Plain mathematics.
-/
import Derived.Test.YtladcjoiaoaedaaLgn
namespace Go.Proofs.Ytladcjoiaoaedaa
/-- The form has the value n. -/
def Rep (a b c n : Int) : Prop := ∃ x y : Int, a * x * x + b * x * y + c * y * y = n
theorem rep_shift {a b c n : Int} (t : Int) : Rep a (b + 2 * a * t) (a * t * t + b * t + c) n ↔ Rep a b c n := by
  constructor
  · rintro ⟨x, y, h⟩
    exact ⟨x + t * y, y, by rw [← h]; grind⟩
  · rintro ⟨x, y, h⟩
    exact ⟨x - t * y, y, by rw [← h]; grind⟩
theorem rep_flip {a b c n : Int} : Rep c (-b) a n ↔ Rep a b c n := by
  constructor
  · rintro ⟨x, y, h⟩
    exact ⟨-y, x, by rw [← h]; grind⟩
  · rintro ⟨x, y, h⟩
    exact ⟨y, -x, by rw [← h]; grind⟩
theorem rep_opp {a b c n : Int} : Rep a (-b) c n ↔ Rep a b c n := by
  constructor
  · rintro ⟨x, y, h⟩
    exact ⟨x, -y, by rw [← h]; grind⟩
  · rintro ⟨x, y, h⟩
    exact ⟨x, -y, by rw [← h]; grind⟩
theorem sq_nn (x : Int) : 0 ≤ x * x := by
  rcases Int.le_total 0 x with h | h
  · exact Int.mul_nonneg h h
  · exact Int.mul_nonneg_of_nonpos_of_nonpos h h
/-- A reduced form that has the value 1 is the first. -/
theorem red_one {d a b c : Int} (hd : b * b - 4 * a * c = d) (hneg : d < 0) (h4 : d % 4 ≤ 1) (ha : 1 ≤ a) (h1 : -a < b) (h2 : b ≤ a) (h3 : a ≤ c) (h : Rep a b c 1) : a = 1 ∧ b = d % 2 ∧ c = (d % 2 - d) / 4 := by
  obtain ⟨x, y, hv⟩ := h
  have ha1 : a = 1 := by
    refine Int.le_antisymm (Int.le_of_not_gt fun hgt => ?_) ha
    -- 2 (value) ≥ a (x^2 + y^2 + (x ± y)^2) - ..
    have k1 : 0 ≤ (a - b) * ((x - y) * (x - y)) := Int.mul_nonneg (by omega) (sq_nn _)
    have k2 : 0 ≤ (a + b) * ((x + y) * (x + y)) := Int.mul_nonneg (by omega) (sq_nn _)
    have k3 : 0 ≤ (c - a) * (y * y) := Int.mul_nonneg (by omega) (sq_nn _)
    have e1 : 4 * (a * x * x + b * x * y + c * y * y) = (a - b) * ((x - y) * (x - y)) + (a + b) * ((x + y) * (x + y)) + 2 * (a * (x * x)) + 2 * (a * (y * y)) + 4 * ((c - a) * (y * y)) := by grind
    have hx := sq_nn x
    have hy := sq_nn y
    have e2 : 0 ≤ (a - 2) * (x * x) := Int.mul_nonneg (by omega) hx
    have e3 : 0 ≤ (a - 2) * (y * y) := Int.mul_nonneg (by omega) hy
    have e4 : 4 = (a - b) * ((x - y) * (x - y)) + (a + b) * ((x + y) * (x + y)) + 2 * (a * (x * x)) + 2 * (a * (y * y)) + 4 * ((c - a) * (y * y)) := by rw [← e1, hv]; rfl
    have e5 : 2 * (a * (x * x)) = 2 * ((a - 2) * (x * x)) + 4 * (x * x) := by grind
    have e6 : 2 * (a * (y * y)) = 2 * ((a - 2) * (y * y)) + 4 * (y * y) := by grind
    -- so x^2 + y^2 ≤ 1
    have e7 : x * x + y * y ≤ 1 := by omega
    rcases (show x * x = 0 ∨ (x * x = 1 ∧ y * y = 0) by omega) with hx0 | ⟨hx1, hy0⟩
    · have hx00 : x = 0 := by simpa using Int.mul_eq_zero.1 hx0
      subst hx00
      rcases (show y * y = 0 ∨ y * y = 1 by omega) with hy0 | hy1
      · have hy00 : y = 0 := by simpa using Int.mul_eq_zero.1 hy0
        subst hy00
        simp at hv
      · have : c = 1 := by
          have : a * 0 * 0 + b * 0 * y + c * y * y = c * (y * y) := by grind
          rw [this, hy1] at hv
          omega
        omega
    · have hy00 : y = 0 := by simpa using Int.mul_eq_zero.1 hy0
      subst hy00
      have : a * x * x + b * x * 0 + c * 0 * 0 = a * (x * x) := by grind
      rw [this, hx1] at hv
      omega
  subst ha1
  have hb : b = 0 ∨ b = 1 := by omega
  rcases hb with rfl | rfl
  · exact ⟨rfl, by omega, by omega⟩
  · exact ⟨rfl, by omega, by omega⟩
theorem one_rep {d : Int} : Rep 1 (d % 2) ((d % 2 - d) / 4) 1 := ⟨1, 0, by simp⟩
/-- The elements that generate the primitive ideal a, b. -/
def GenS (d a b u v : Int) : Prop := u * u - d * (v * v) = 4 * a ∧ (2 * a) ∣ u + b * v
theorem genS_rep {d a b c : Int} (ha : 1 ≤ a) (hc : b * b - d = 4 * a * c) : Rep a b c 1 ↔ ∃ u v, GenS d a b u v := by
  constructor
  · rintro ⟨x, y, h⟩
    refine ⟨2 * a * x + b * y, -y, ?_, ⟨x, by grind⟩⟩
    have : d = b * b - 4 * a * c := by omega
    rw [this]
    have : 4 * a * (a * x * x + b * x * y + c * y * y) = 4 * a := by rw [h]; omega
    grind
  · rintro ⟨u, v, h1, ⟨k, hk⟩⟩
    refine ⟨k, -v, ?_⟩
    have hu : u = 2 * a * k - b * v := by omega
    subst hu
    have hd : d = b * b - 4 * a * c := by omega
    subst hd
    have h2 : 4 * a * (a * k * k + b * k * -v + c * -v * -v) = 4 * a * 1 := by grind
    exact Int.eq_of_mul_eq_mul_left (by omega) h2
theorem genS_value {d a b c x y : Int} (ha : 1 ≤ a) (hc : b * b - d = 4 * a * c) : a * x * x + -b * x * y + c * y * y = 1 ↔ GenS d a b (2 * a * x - b * y) y := by
  have hd : d = b * b - 4 * a * c := by omega
  subst hd
  constructor
  · intro h
    refine ⟨?_, ⟨x, by grind⟩⟩
    have : 4 * a * (a * x * x + -b * x * y + c * y * y) = 4 * a := by rw [h]; omega
    grind
  · rintro ⟨h1, -⟩
    have h2 : 4 * a * (a * x * x + -b * x * y + c * y * y) = 4 * a * 1 := by grind
    exact Int.eq_of_mul_eq_mul_left (by omega) h2
theorem genS_point {d a b c u v : Int} (h : GenS d a b u v) : ∃ x, u = 2 * a * x - b * v := by
  obtain ⟨h1, ⟨k, hk⟩⟩ := h
  exact ⟨k, by omega⟩
theorem genS_el {d a u v : Int} (hn : negB d = true) (ha : 1 ≤ a ∧ a ≤ 10000) (h : u * u - d * (v * v) = 4 * a) : elB d u v = true ∧ (u ≠ 0 ∨ v ≠ 0) ∧ Bd 200 u ∧ Bd 200 v := by
  obtain ⟨d1, d2, d3⟩ := negB_true hn
  have hu := sq_nn u
  have hv := sq_nn v
  have hdv : 0 ≤ (-d - 3) * (v * v) := Int.mul_nonneg (by omega) hv
  have e1 : -d * (v * v) = (-d - 3) * (v * v) + 3 * (v * v) := by grind
  have e2 : u * u + -d * (v * v) = 4 * a := by grind
  have bu : Bd 200 u := by
    constructor
    · refine Int.le_of_not_gt fun h => ?_
      have := Int.mul_le_mul (show 201 ≤ -u by omega) (show 201 ≤ -u by omega) (by omega) (by omega)
      rw [Int.neg_mul_neg] at this
      omega
    · refine Int.le_of_not_gt fun h => ?_
      have := Int.mul_le_mul (show 201 ≤ u by omega) (show 201 ≤ u by omega) (by omega) (by omega)
      omega
  have bv : Bd 200 v := by
    constructor
    · refine Int.le_of_not_gt fun h => ?_
      have := Int.mul_le_mul (show 201 ≤ -v by omega) (show 201 ≤ -v by omega) (by omega) (by omega)
      rw [Int.neg_mul_neg] at this
      omega
    · refine Int.le_of_not_gt fun h => ?_
      have := Int.mul_le_mul (show 201 ≤ v by omega) (show 201 ≤ v by omega) (by omega) (by omega)
      omega
  refine ⟨?_, ?_, bu, bv⟩
  · obtain ⟨b1, b2⟩ := bu
    obtain ⟨b3, b4⟩ := bv
    refine decide_eq_true ⟨⟨decide_eq_true ⟨by omega, by omega⟩, decide_eq_true ⟨by omega, by omega⟩⟩, ?_⟩
    have hpar : (u - d * v) % 2 = 0 := by
      obtain ⟨m, hm⟩ : ∃ m, d = 4 * m + d % 4 := ⟨d / 4, by omega⟩
      rcases (show d % 4 = 0 ∨ d % 4 = 1 by omega) with e | e
      · rw [e] at hm
        have h5 : u * u = 4 * (a + m * (v * v)) := by rw [hm] at h; grind
        rcases (show u % 2 = 0 ∨ u % 2 = 1 by omega) with h6 | h6
        · have : d * v = 2 * (2 * m * v) := by rw [hm]; grind
          omega
        · obtain ⟨q, hq⟩ : ∃ q, u = 2 * q + 1 := ⟨u / 2, by omega⟩
          have : u * u = 2 * (2 * q * q + 2 * q) + 1 := by rw [hq]; grind
          omega
      · rw [e] at hm
        have h5 : u * u - v * v = 4 * (a + m * (v * v)) := by rw [hm] at h; grind
        have hdv2 : d * v = 2 * (2 * m * v) + v := by rw [hm]; grind
        rcases (show u % 2 = 0 ∨ u % 2 = 1 by omega) with h6 | h6 <;> rcases (show v % 2 = 0 ∨ v % 2 = 1 by omega) with h7 | h7
        · omega
        · obtain ⟨q, hq⟩ : ∃ q, u = 2 * q := ⟨u / 2, by omega⟩
          obtain ⟨r, hr⟩ : ∃ r, v = 2 * r + 1 := ⟨v / 2, by omega⟩
          have h8 : u * u = 2 * (2 * q * q) := by rw [hq]; grind
          have h9 : v * v = 2 * (2 * r * r + 2 * r) + 1 := by rw [hr]; grind
          omega
        · obtain ⟨q, hq⟩ : ∃ q, u = 2 * q + 1 := ⟨u / 2, by omega⟩
          obtain ⟨r, hr⟩ : ∃ r, v = 2 * r := ⟨v / 2, by omega⟩
          have h8 : u * u = 2 * (2 * q * q + 2 * q) + 1 := by rw [hq]; grind
          have h9 : v * v = 2 * (2 * r * r) := by rw [hr]; grind
          omega
        · omega
    exact Int.tmod_eq_zero_of_dvd (Int.dvd_of_emod_eq_zero hpar)
  · refine Classical.byContradiction fun hc => ?_
    have hu0 : u = 0 := Classical.byContradiction fun e => hc (Or.inl e)
    have hv0 : v = 0 := Classical.byContradiction fun e => hc (Or.inr e)
    subst hu0 hv0
    simp at h
    omega
theorem self_in {e a b : Int} : InI e a b (2 * e * a) 0 ∧ InI e a b (-e * b) e :=
  ⟨⟨2 * a, 0, 1, by grind, by grind, by grind⟩, ⟨-b, 1, 0, by grind, by grind, by grind⟩⟩
/-- Which elements of the right norm generate the ideal. -/
theorem pr_eq {d a b u v : Int} (hi : idB d 1 a b = true) (h : u * u - d * (v * v) = 4 * a) : (pE d u v = 1 ∧ pA d u v = a ∧ pB d u v = b) ↔ (2 * a) ∣ u + b * v := by
  obtain ⟨hn, -, -, a1, a2, b1, b2, h8⟩ := idB_true hi
  obtain ⟨he, h0, -, -⟩ := genS_el hn ⟨a1, a2⟩ h
  have hf := prF hn he h0
  have hp := (of_decide_eq_true he).2
  obtain ⟨d1, d2, d3⟩ := negB_true hn
  have g := gens_of (by omega) d3 hp h0
  have hnorm := prF_norm hf g
  obtain ⟨s0, s1, s2, s3, s4, s5, s6, s7⟩ := pr_same hf
  have hE1 : 1 ≤ pE d u v := by rw [← s2]; omega
  have hB : 0 ≤ pB d u v ∧ pB d u v < 2 * pA d u v := by
    have hA2 : 0 < 2 * pA d u v := by omega
    exact ⟨Int.emod_nonneg _ (show 2 * oA (prS d u v).1 (prS d u v).2.2 ≠ 0 by have : pA d u v = oA (prS d u v).1 (prS d u v).2.2 := rfl; omega), Int.emod_lt_of_pos _ hA2⟩
  constructor
  · rintro ⟨e1, e2, e3⟩
    have hs := (pr_span (InI.lat 1 a b) (InI.zero 1 a b) hf).1 (by rw [e1, e2, e3]; exact self_in)
    obtain ⟨i, j, k, hi1, hi2, hi3⟩ := hs.1
    exact ⟨k, by rw [← hi3, hi1, hi2, Int.one_mul, Int.one_mul, Int.mul_comm b j]⟩
  · rintro ⟨k, hk⟩
    have hin : InI 1 a b u v := ⟨u, v, k, by omega, by omega, by rw [← hk, Int.mul_comm b v]⟩
    have hs := (pr_span (InI.lat 1 a b) (InI.zero 1 a b) hf).2 ⟨hin, in_times hi hp h0 hin⟩
    obtain ⟨⟨i, j, m, q1, q2, q3⟩, ⟨i', j', m', r1, r2, r3⟩⟩ := hs
    generalize pE d u v = E at *
    generalize pA d u v = A at *
    generalize pB d u v = B at *
    have hEA : E * E * A = a := by omega
    -- a divides E A
    have h1 : E * A = a * m := by
      have hj : j = 0 := by omega
      subst hj
      have : 2 * E * A = 2 * a * m := by rw [← q3, q1]; omega
      have : 2 * (E * A) = 2 * (a * m) := by grind
      omega
    have hEm : E * m = 1 := by
      have h2 : a * (E * m) = a * 1 := by rw [Int.mul_one, Int.mul_left_comm, ← h1, ← Int.mul_assoc, hEA]
      exact Int.eq_of_mul_eq_mul_left (by omega) h2
    have hE : E = 1 := by
      have hm : 0 < m := by
        refine Int.lt_of_not_ge fun hm => ?_
        have := Int.mul_nonpos_of_nonneg_of_nonpos (show 0 ≤ E by omega) hm
        omega
      have := Int.mul_le_mul_of_nonneg_left (show 1 ≤ m by omega) (show 0 ≤ E by omega)
      omega
    subst hE
    have hA : A = a := by omega
    subst hA
    refine ⟨rfl, rfl, ?_⟩
    have hBb : b - B = 2 * A * m' := by
      rw [← r3]
      have : i' = -B := by omega
      have : j' = 1 := by omega
      subst this
      omega
    have hm0 : m' = 0 := by
      refine Classical.byContradiction fun hm => ?_
      rcases (show 1 ≤ m' ∨ m' ≤ -1 by omega) with hm | hm
      · have := Int.mul_le_mul_of_nonneg_left hm (show 0 ≤ 2 * A by omega)
        omega
      · have := Int.mul_le_mul_of_nonneg_left hm (show 0 ≤ 2 * A by omega)
        omega
    rw [hm0] at hBb
    omega
/-- The order of pairs, and the greatest one. -/
def lexLe (u v u' v' : Int) : Prop := u < u' ∨ (u = u' ∧ v ≤ v')
theorem lexLe.antisymm {u v u' v' : Int} (h : lexLe u v u' v') (h' : lexLe u' v' u v) : u = u' ∧ v = v' := by unfold lexLe at h h'; omega
theorem lexLe.trans {u v u' v' u'' v'' : Int} (h : lexLe u v u' v') (h' : lexLe u' v' u'' v'') : lexLe u v u'' v'' := by unfold lexLe at h h' ⊢; omega
/-- What GeneratorOf returns for a whole ideal. -/
def GenR (d e a b x y : Int) (ok : Bool) : Prop := (ok = true ∧ ∃ u v, GenS d a b u v ∧ (∀ u' v', GenS d a b u' v' → lexLe u' v' u v) ∧ x = e * u ∧ y = e * v) ∨ (ok = false ∧ x = 0 ∧ y = 0 ∧ ∀ u v, ¬ GenS d a b u v)
theorem GenR.unique {d e a b x y x' y' : Int} {ok ok' : Bool} (h : GenR d e a b x y ok) (h' : GenR d e a b x' y' ok') : x = x' ∧ y = y' ∧ ok = ok' := by
  rcases h with ⟨rfl, u, v, h1, h2, rfl, rfl⟩ | ⟨rfl, rfl, rfl, h1⟩ <;> rcases h' with ⟨rfl, u', v', k1, k2, rfl, rfl⟩ | ⟨rfl, rfl, rfl, k1⟩
  · obtain ⟨rfl, rfl⟩ := (h2 _ _ k1).antisymm (k2 _ _ h1)
    exact ⟨rfl, rfl, rfl⟩
  · exact absurd h1 (k1 _ _)
  · exact absurd k1 (h1 _ _)
  · exact ⟨rfl, rfl, rfl⟩
/-- The greatest so far. -/
def Best (S : Int → Int → Prop) (f : Bool) (u v : Int) : Prop := (f = false ∧ u = 0 ∧ v = 0 ∧ ∀ x y, ¬ S x y) ∨ (f = true ∧ S u v ∧ ∀ x y, S x y → lexLe x y u v)
theorem Best.mono {S T : Int → Int → Prop} {f : Bool} {u v : Int} (h : Best S f u v) (hs : ∀ x y, S x y ↔ T x y) : Best T f u v := by
  rcases h with ⟨h1, h2, h3, h4⟩ | ⟨h1, h2, h3⟩
  · exact .inl ⟨h1, h2, h3, fun x y hx => h4 x y ((hs x y).2 hx)⟩
  · exact .inr ⟨h1, (hs _ _).1 h2, fun x y hx => h3 x y ((hs x y).2 hx)⟩
theorem Best.none : Best (fun _ _ => False) false 0 0 := .inl ⟨rfl, rfl, rfl, fun _ _ h => h⟩
theorem Best.take {S : Int → Int → Prop} {f : Bool} {u v x y : Int} (h : Best S f u v) (hx : f = false ∨ u < x ∨ (x = u ∧ v < y)) : Best (fun p q => S p q ∨ (p = x ∧ q = y)) true x y := by
  refine .inr ⟨rfl, .inr ⟨rfl, rfl⟩, ?_⟩
  rintro p q (hp | ⟨rfl, rfl⟩)
  · rcases h with ⟨h1, h2, h3, h4⟩ | ⟨h1, h2, h3⟩
    · exact absurd hp (h4 _ _)
    · have hl := h3 _ _ hp
      rcases hx with hx | hx
      · rw [h1] at hx; cases hx
      · unfold lexLe at hl ⊢; omega
  · exact .inr ⟨rfl, Int.le_refl _⟩
theorem Best.keep {S : Int → Int → Prop} {f : Bool} {u v x y : Int} (h : Best S f u v) (hf : f = true) (hx : ¬ (u < x ∨ (x = u ∧ v < y))) : Best (fun p q => S p q ∨ (p = x ∧ q = y)) f u v := by
  rcases h with ⟨h1, h2, h3, h4⟩ | ⟨h1, h2, h3⟩
  · rw [h1] at hf; cases hf
  · refine .inr ⟨h1, .inl h2, ?_⟩
    rintro p q (hp | ⟨rfl, rfl⟩)
    · exact h3 _ _ hp
    · unfold lexLe; omega
end Go.Proofs.Ytladcjoiaoaedaa
