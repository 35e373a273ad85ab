/-
  The ideal of an element: that its normal form is one of an ideal. Plain mathematics.
-/
import Derived.Test.YtladcjoiaoaedaaHermW
namespace Go.Proofs.Ytladcjoiaoaedaa
/-- Combinations: a set of pairs that is closed under taking multiples of one from another. -/
def Lat (P : Int → Int → Prop) : Prop := ∀ x y u v k, P x y → P u v → P (x - k * u) (y - k * v)
theorem lat_red {P : Int → Int → Prop} (hP : Lat P) {a x y : Int} (ha : P a 0) (h : P x y) : P (red a x) y := by
  unfold red
  split
  · exact h
  · have := hP x y a 0 (x / a) h ha
    rw [Int.mul_zero, Int.sub_zero] at this
    rwa [show x % a = x - x / a * a by have := Int.mul_ediv_add_emod x a; rw [Int.mul_comm] at this; omega]
theorem lat_euc {P : Int → Int → Prop} (hP : Lat P) {a : Int} (ha : P a 0) : ∀ (f : Nat) (b d x y : Int), y.natAbs ≤ f → P b d → P x y → P (eucI a f b d x y).1 (eucI a f b d x y).2.1 ∧ P (eucI a f b d x y).2.2 0 := by
  intro f
  induction f with
  | zero => intro b d x y h1 h2 h3; obtain rfl : y = 0 := by omega
            exact ⟨h2, h3⟩
  | succ f ih =>
    intro b d x y h1 h2 h3
    simp only [eucI]
    split
    · rename_i h0; subst h0; exact ⟨h2, h3⟩
    · rename_i h0
      have := rem_lt d h0
      exact ih _ _ _ _ (by omega) h3 (lat_red hP ha (hP _ _ _ _ _ h2 h3))
theorem lat_gcd {P : Int → Int → Prop} (hP : Lat P) (h0 : P 0 0) : ∀ (n : Nat) (a x : Int), x.natAbs ≤ n → P a 0 → P x 0 → P (Int.gcd a x : Int) 0 := by
  intro n
  induction n with
  | zero =>
    intro a x h1 ha _
    obtain rfl : x = 0 := by omega
    rw [Int.gcd_zero_right]
    rcases Int.le_total 0 a with h | h
    · rwa [show (a.natAbs : Int) = a by omega]
    · have := hP 0 0 a 0 1 h0 ha
      rwa [show (0 : Int) - 1 * a = a.natAbs by omega, show (0 : Int) - 1 * 0 = 0 by omega] at this
  | succ n ih =>
    intro a x h1 ha hx
    by_cases hx0 : x = 0
    · subst hx0
      rw [Int.gcd_zero_right]
      rcases Int.le_total 0 a with h | h
      · rwa [show (a.natAbs : Int) = a by omega]
      · have := hP 0 0 a 0 1 h0 ha
        rwa [show (0 : Int) - 1 * a = a.natAbs by omega, show (0 : Int) - 1 * 0 = 0 by omega] at this
    · have hr := hP a 0 x 0 (a.tdiv x) ha hx
      have hlt := rem_lt a hx0
      rw [show (0 : Int) - a.tdiv x * 0 = 0 by rw [Int.mul_zero]; rfl] at hr
      have := ih x (a - a.tdiv x * x) (by omega) hx hr
      rwa [tmod_eq', gcd_step] at this
theorem lat_step {P : Int → Int → Prop} (hP : Lat P) (h0 : P 0 0) {s : Int × Int × Int} {v : Int × Int} (ha : P s.1 0) (hb : P s.2.1 s.2.2) (hv : P v.1 v.2) : P (hStep s v).1 0 ∧ P (hStep s v).2.1 (hStep s v).2.2 := by
  obtain ⟨h1, h2⟩ := lat_euc hP ha v.2.natAbs _ _ _ _ (Nat.le_refl _) hb hv
  have hg := lat_gcd hP h0 _ s.1 _ (Nat.le_refl _) ha h2
  exact ⟨hg, lat_red hP hg h1⟩
/-- The last d divides what was there. -/
theorem euc_dvd (a : Int) : ∀ (f : Nat) (b d x y : Int), y.natAbs ≤ f → (eucI a f b d x y).2.1 ∣ d ∧ (eucI a f b d x y).2.1 ∣ y := by
  intro f
  induction f with
  | zero => intro b d x y h1; obtain rfl : y = 0 := by omega
            exact ⟨Int.dvd_refl _, Int.dvd_zero _⟩
  | succ f ih =>
    intro b d x y h1
    simp only [eucI]
    split
    · rename_i h0; subst h0; exact ⟨Int.dvd_refl _, Int.dvd_zero _⟩
    · rename_i h0
      have hlt := rem_lt d h0
      obtain ⟨e1, e2⟩ := ih x y (red a (b - d.tdiv y * x)) (d - d.tdiv y * y) (by omega)
      refine ⟨?_, e1⟩
      obtain ⟨m, hm⟩ := e1
      obtain ⟨n, hn⟩ := e2
      exact ⟨n + d.tdiv y * m, by grind⟩
theorem step_dvd (s : Int × Int × Int) (v : Int × Int) : (hStep s v).2.2 ∣ s.2.2 ∧ (hStep s v).2.2 ∣ v.2 := euc_dvd s.1 _ _ _ _ _ (Nat.le_refl _)
/-- The state after the first vector. -/
theorem first_step (u v : Int) : hStep (0, 0, 0) (u, v) = if v = 0 then ((u.natAbs : Int), 0, 0) else (0, u, v) := by
  by_cases h : v = 0
  · subst h
    simp [hStep, eucI, red]
  · obtain ⟨f, hf⟩ : ∃ f, v.natAbs = f + 1 := ⟨v.natAbs - 1, by omega⟩
    have e : eucI 0 v.natAbs 0 0 u v = (u, v, 0) := by
      rw [hf]
      simp only [eucI]
      rw [if_neg h]
      cases f <;> simp [eucI, red]
    simp [hStep, e, h, red]
/-- The two vectors of the ideal of an element: the element and its product with the generator. -/
structure Gens (d r u v u2 v2 : Int) : Prop where
  h1 : 2 * u2 = r * u + d * v
  h2 : 2 * v2 = u + r * v
  h3 : r * r = r
  h4 : ∃ c, d - r = 4 * c
  pos : 0 < u * u - d * (v * v)
/-- What the normal form of such a lattice is like. -/
structure Nice (a b d : Int) : Prop where
  d0 : d ≠ 0
  a0 : 0 < a
  da : (2 * (d.natAbs : Int)) ∣ a
  db : (d.natAbs : Int) ∣ b
theorem gens_key {d r u v u2 v2 e : Int} (g : Gens d r u v u2 v2) (hv : e ∣ v) (hv2 : e ∣ v2) (i j : Int) : 2 * e ∣ (i * u + j * u2) + r * (i * v + j * v2) := by
  obtain ⟨m, hm⟩ := hv
  obtain ⟨n, hn⟩ := hv2
  obtain ⟨c, hc⟩ := g.h4
  have h1 := g.h1
  have h2 := g.h2
  have h3 := g.h3
  refine ⟨i * n + j * (r * n + c * m), ?_⟩
  have e1 : u2 + r * v2 = 2 * (r * v2 + c * v) := by
    have : 2 * (u2 + r * v2) = 2 * (2 * (r * v2 + c * v)) := by grind
    omega
  grind
theorem gens_nice {d r u v u2 v2 : Int} (g : Gens d r u v u2 v2) : Nice (hStep (hStep (0, 0, 0) (u, v)) (u2, v2)).1 (hStep (hStep (0, 0, 0) (u, v)) (u2, v2)).2.1 (hStep (hStep (0, 0, 0) (u, v)) (u2, v2)).2.2 := by
  have key : ∀ (P : Int → Int → Prop), Lat P → P 0 0 → P u v → P u2 v2 → P (hStep (hStep (0, 0, 0) (u, v)) (u2, v2)).1 0 ∧ P (hStep (hStep (0, 0, 0) (u, v)) (u2, v2)).2.1 (hStep (hStep (0, 0, 0) (u, v)) (u2, v2)).2.2 := by
    intro P hP h0 h1 h2
    obtain ⟨a1, b1⟩ := lat_step (s := (0, 0, 0)) (v := (u, v)) hP h0 h0 h0 h1
    exact lat_step (v := (u2, v2)) hP h0 a1 b1 h2
  have hcomb := key (fun x y => ∃ i j, x = i * u + j * u2 ∧ y = i * v + j * v2) (by
    rintro x y x' y' k ⟨i, j, rfl, rfl⟩ ⟨i', j', rfl, rfl⟩
    exact ⟨i - k * i', j - k * j', by grind, by grind⟩) ⟨0, 0, by simp, by simp⟩ ⟨1, 0, by simp, by simp⟩ ⟨0, 1, by simp, by simp⟩
  obtain ⟨⟨i, j, ha1, ha2⟩, ⟨i', j', hb1, hb2⟩⟩ := hcomb
  obtain ⟨dv1, dv2⟩ := step_dvd (hStep (0, 0, 0) (u, v)) (u2, v2)
  have dv0 := (step_dvd (0, 0, 0) (u, v)).2
  have dv : (hStep (hStep (0, 0, 0) (u, v)) (u2, v2)).2.2 ∣ v := Int.dvd_trans dv1 dv0
  have hne : (hStep (hStep (0, 0, 0) (u, v)) (u2, v2)).2.2 ≠ 0 := by
    intro h0
    rw [h0] at dv dv2
    have hv0 : v = 0 := by simpa using dv
    have hv2 : v2 = 0 := by simpa using dv2
    have hp := g.pos
    have h2 := g.h2
    subst hv0 hv2
    have : u = 0 := by omega
    subst this
    simp at hp
  have ha0 : (hStep (hStep (0, 0, 0) (u, v)) (u2, v2)).1 ≠ 0 := by
    intro h0
    have hg : Int.gcd (hStep (0, 0, 0) (u, v)).1 (eucI (hStep (0, 0, 0) (u, v)).1 v2.natAbs (hStep (0, 0, 0) (u, v)).2.1 (hStep (0, 0, 0) (u, v)).2.2 u2 v2).2.2 = 0 := by
      have : ((Int.gcd (hStep (0, 0, 0) (u, v)).1 (eucI (hStep (0, 0, 0) (u, v)).1 v2.natAbs (hStep (0, 0, 0) (u, v)).2.1 (hStep (0, 0, 0) (u, v)).2.2 u2 v2).2.2 : Nat) : Int) = 0 := h0
      omega
    obtain ⟨g1, g2⟩ := Int.gcd_eq_zero_iff.1 hg
    have hv : v ≠ 0 := by
      intro hv
      subst hv
      rw [first_step] at g1
      simp at g1
      have hp := g.pos
      subst g1
      simp at hp
    have e1 : hStep (0, 0, 0) (u, v) = (0, u, v) := by rw [first_step, if_neg hv]
    rw [e1] at g2
    obtain ⟨m, n, q1, q2, q3, q4⟩ := euc_line v2.natAbs u v u2 v2 (Nat.le_refl _) g2
    have hdet : u * v2 - v * u2 = 0 := by rw [q1, q2, q3, q4]; grind
    have hp := g.pos
    have h1 := g.h1
    have h2 := g.h2
    have : 2 * (u * v2 - v * u2) = u * u - d * (v * v) := by grind
    omega
  have hk := gens_key g dv dv2
  have apos : 0 ≤ (hStep (hStep (0, 0, 0) (u, v)) (u2, v2)).1 := by show (0 : Int) ≤ (Int.gcd _ _ : Int); omega
  generalize (hStep (hStep (0, 0, 0) (u, v)) (u2, v2)) = s at *
  obtain ⟨a, b, dd⟩ := s
  simp only at *
  refine ⟨hne, by omega, ?_, ?_⟩
  · have h := hk i j
    rw [← ha1, ← ha2, Int.mul_zero, Int.add_zero] at h
    rcases Int.natAbs_eq dd with e | e
    · rwa [← e]
    · have : (2 * (dd.natAbs : Int)) = -(2 * dd) := by omega
      rw [this]
      exact Int.neg_dvd.2 h
  · have h := hk i' j'
    rw [← hb1, ← hb2] at h
    have h2 : dd ∣ b + r * dd := Int.dvd_trans (Int.dvd_mul_left 2 dd) h
    have h3 : dd ∣ b := by
      have := Int.dvd_sub h2 (Int.dvd_mul_left r dd)
      rwa [Int.add_sub_cancel] at this
    exact Int.natAbs_dvd.2 h3
/-- The ideal of a normal form: the program's way and the reference's. -/
def bN (a b d : Int) : Int := if d < 0 then (-b) % a else b
theorem nice_same {a b d n U V : Int} (hn : Nice a b d) (hs : Sim (a, b, d) (n, U, V)) (hb : 0 ≤ b ∧ b < a) :
    n = a ∧ V ≠ 0 ∧ (V.natAbs : Int) = d.natAbs ∧ ((-(if V < 0 then -U else U)).tdiv (V.natAbs : Int)) % (2 * (n / (2 * (V.natAbs : Int)))) = ((-(bN a b d)).tdiv (d.natAbs : Int)) % (2 * (a / (2 * (d.natAbs : Int)))) ∧ 1 ≤ a / (2 * (d.natAbs : Int)) ∧ bN a b d < a ∧ 0 ≤ bN a b d := by
  obtain ⟨h1, s, hs1, h2, h3⟩ := hs
  simp only at h1 h2 h3
  subst h1
  have hd0 := hn.d0
  have ha0 := hn.a0
  have hVd : (V.natAbs : Int) = d.natAbs := by rcases hs1 with rfl | rfl <;> omega
  have hV : V ≠ 0 := by rcases hs1 with rfl | rfl <;> omega
  have m1 := Int.emod_nonneg (-b) (show a ≠ 0 by omega)
  have m2 := Int.emod_lt_of_pos (-b) ha0
  have hbN : 0 ≤ bN a b d ∧ bN a b d < a := by unfold bN; split <;> omega
  obtain ⟨A, hA⟩ := hn.da
  obtain ⟨B, hB⟩ := hn.db
  have he : 0 < (d.natAbs : Int) := by omega
  have hAq : a / (2 * (d.natAbs : Int)) = A := by rw [hA]; exact Int.mul_ediv_cancel_left _ (by omega)
  have hA1 : 1 ≤ A := by
    refine Int.le_of_not_gt fun h => ?_
    have := Int.mul_nonpos_of_nonneg_of_nonpos (show 0 ≤ 2 * (d.natAbs : Int) by omega) (show A ≤ 0 by omega)
    omega
  refine ⟨rfl, hV, hVd, ?_, by rw [hAq]; exact hA1, hbN.2, hbN.1⟩
  rw [hVd, hAq]
  -- both numerators differ by a multiple of a
  have hdiff : a ∣ (if V < 0 then -U else U) - bN a b d := by
    have hb1 : a ∣ bN a b d - (if d < 0 then -b else b) := by
      unfold bN
      split
      · have := Int.dvd_self_sub_emod (x := -b) (m := a)
        have := Int.dvd_neg.2 this
        rwa [Int.neg_sub] at this
      · rw [Int.sub_self]; exact Int.dvd_zero _
    have hU1 : a ∣ (if V < 0 then -U else U) - (if d < 0 then -b else b) := by
      obtain ⟨m, hm⟩ := h3
      rcases hs1 with rfl | rfl
      · by_cases hd : d < 0
        · rw [if_pos (by omega), if_pos hd]; exact ⟨-m, by grind⟩
        · rw [if_neg (by omega), if_neg hd]; exact ⟨m, by grind⟩
      · by_cases hd : d < 0
        · rw [if_neg (by omega), if_pos hd]; exact ⟨m, by grind⟩
        · rw [if_pos (by omega), if_neg hd]; exact ⟨-m, by grind⟩
    have := Int.dvd_sub hU1 hb1
    rwa [show (if V < 0 then -U else U) - (if d < 0 then -b else b) - (bN a b d - (if d < 0 then -b else b)) = (if V < 0 then -U else U) - bN a b d by omega] at this
  have hbd : (d.natAbs : Int) ∣ bN a b d := by
    unfold bN
    split
    · have h1 : (d.natAbs : Int) ∣ a := Int.dvd_trans (Int.dvd_mul_left 2 _) hn.da
      obtain ⟨p, hp⟩ := h1
      obtain ⟨q, hq⟩ := hn.db
      refine ⟨-q - p * (-b / a), ?_⟩
      rw [Int.emod_def]
      grind
    · exact hn.db
  obtain ⟨m, hm⟩ := hdiff
  obtain ⟨t, ht⟩ := hbd
  generalize (if V < 0 then -U else U) = X at *
  generalize bN a b d = Y at *
  generalize (d.natAbs : Int) = e at *
  have e1 : X = e * (t + 2 * A * m) := by grind
  have e2 : (-X).tdiv e = -(t + 2 * A * m) := by rw [e1, ← Int.mul_neg, Int.mul_tdiv_cancel_left _ (by omega)]
  have e3 : (-Y).tdiv e = -t := by rw [ht, ← Int.mul_neg, Int.mul_tdiv_cancel_left _ (by omega)]
  rw [e2, e3, show -(t + 2 * A * m) = -t + 2 * A * (-m) by grind, Int.add_mul_emod_self_left]
/-- The numbers of the two steps stay small. -/
theorem bd00 {k : Int} (h : 0 ≤ k) : Bd k 0 := ⟨by omega, h⟩
theorem fit_first {u v : Int} (hu : Bd 1000000 u) (hv : Bd 1000000 v) : FitI 0 (0, 0, 0) (u, v) :=
  ⟨1000000, 0, 1000000, ⟨by omega, by omega, by omega, by omega, by omega, by omega, by omega, fun h => absurd rfl h⟩, ⟨bd00 (by omega), hv, bd00 (by omega), hu, fun _ => by simp⟩⟩
theorem fit_second {u v u2 v2 m : Int} (hu : Bd 1000000 u) (hv : Bd 1000000 v) (hu2 : Bd 1100000000 u2) (hv2 : Bd 1000000 v2) (hm : m = (hStep (0, 0, 0) (u, v)).1 ∨ m = 0) : FitI m (hStep (0, 0, 0) (u, v)) (u2, v2) := by
  rw [first_step] at hm ⊢
  by_cases h : v = 0
  · rw [if_pos h] at hm ⊢
    simp only at hm
    obtain ⟨u1, u3⟩ := hu
    obtain ⟨q1, q2⟩ := hu2
    refine ⟨1000000, 0, 2000000000, ⟨by omega, by omega, by omega, by omega, fun _ => by omega, by omega, by omega, fun _ => by omega⟩, ⟨bd00 (by omega), hv2, bd00 (by omega), ⟨by omega, by omega⟩, fun _ => by simp⟩⟩
  · rw [if_neg h] at hm ⊢
    have hm0 : m = 0 := by simpa using hm
    subst hm0
    have e1 := natMul_le hu hv2 (by omega)
    have e2 := natMul_le hu2 hv (by omega)
    refine ⟨1000000, 2000000000000000, 4000000000000000, ⟨by omega, by omega, by omega, by omega, fun _ => by omega, by omega, by omega, fun h => absurd rfl h⟩, ⟨hv, hv2, hu.mono (by omega), hu2.mono (by omega), fun _ => ?_⟩⟩
    push_cast at e1 e2 ⊢
    omega
theorem iStep_first (u v : Int) : iStep (0, 0, 0) (u, v) = hStep (0, 0, 0) (u, v) := by
  rw [first_step]
  by_cases h : v = 0
  · subst h
    simp [iStep, eucS]
  · obtain ⟨f, hf⟩ : ∃ f, v.natAbs = f + 1 := ⟨v.natAbs - 1, by omega⟩
    have e : eucS v.natAbs 0 0 u v = (u, v, 0) := by
      rw [hf]
      simp only [eucS]
      rw [if_neg h]
      cases f <;> simp [eucS]
    simp [iStep, e, h]
/-- The element's product with the generator. -/
def pr2 (d u v : Int) : Int := (d % 2 * u + d * v).tdiv 2
def pr3 (d u v : Int) : Int := (u + d % 2 * v).tdiv 2
theorem tdiv2 {n m : Int} (h : n = 2 * m) : n.tdiv 2 = m := by rw [h, Int.mul_tdiv_cancel_left _ (by omega)]
theorem gens_of {d u v : Int} (hd : d < 0) (h4 : d % 4 ≤ 1) (hp : (u - d * v).tmod 2 = 0) (h0 : u ≠ 0 ∨ v ≠ 0) : Gens d (d % 2) u v (pr2 d u v) (pr3 d u v) := by
  obtain ⟨k, hk⟩ := Int.dvd_of_tmod_eq_zero hp
  have hr : d % 2 = 0 ∨ d % 2 = 1 := by omega
  obtain ⟨m, hm⟩ : ∃ m, d = 2 * m + d % 2 := ⟨d / 2, by omega⟩
  have sq : 0 < u * u - d * (v * v) := by
    have h1 : 0 ≤ u * u := by rcases Int.le_total 0 u with h | h; exact Int.mul_nonneg h h; exact Int.mul_nonneg_of_nonpos_of_nonpos h h
    have h2 : 0 ≤ v * v := by rcases Int.le_total 0 v with h | h; exact Int.mul_nonneg h h; exact Int.mul_nonneg_of_nonpos_of_nonpos h h
    have h3 : 0 ≤ -d * (v * v) := Int.mul_nonneg (by omega) h2
    rw [Int.neg_mul] at h3
    rcases h0 with h | h
    · have : u * u ≠ 0 := fun e => h (by simpa using Int.mul_eq_zero.1 e)
      omega
    · have hv : v * v ≠ 0 := fun e => h (by simpa using Int.mul_eq_zero.1 e)
      have : 0 < -d * (v * v) := Int.mul_pos (by omega) (by omega)
      rw [Int.neg_mul] at this
      omega
  rcases hr with hr | hr
  · rw [hr] at hm ⊢
    have e1 : pr2 d u v = m * v := tdiv2 (by rw [hr]; grind)
    have e2 : pr3 d u v = k + m * v := tdiv2 (by rw [hr]; grind)
    exact ⟨by rw [e1]; grind, by rw [e2]; grind, rfl, ⟨d / 4, by omega⟩, sq⟩
  · rw [hr] at hm ⊢
    have e1 : pr2 d u v = k + d * v := tdiv2 (by rw [hr]; grind)
    have e2 : pr3 d u v = k + m * v + v := tdiv2 (by rw [hr]; grind)
    exact ⟨by rw [e1]; grind, by rw [e2]; grind, rfl, ⟨d / 4, by omega⟩, sq⟩
end Go.Proofs.Ytladcjoiaoaedaa
