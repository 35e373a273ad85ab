/-
  Reduction of indefinite forms: what a step does, and that a cycle comes back. Plain mathematics.
-/
import Derived.Test.YtemnkfigjpphgaaPel
import Derived.Test.YtemnkfigjpphgaaTail
namespace Go.Proofs.Ytemnkfigjpphgaa
/-- Up to where the neighbour's middle coefficient goes. -/
def topR (r : Int) (f : Fm) : Int := if (f.2.2.natAbs : Int) ≤ r then r else (f.2.2.natAbs : Int)
def nbg (r : Int) (f : Fm) : Fm := nb (topR r f) f
def nmg (r : Int) (f : Fm) : Mt := nm (topR r f) f
def cyB (r : Int) (f : Fm) : Bool := decide (0 < f.2.1 ∧ f.2.1 ≤ r ∧ r - f.2.1 < 2 * (f.1.natAbs : Int) ∧ 2 * (f.1.natAbs : Int) ≤ r + f.2.1)
theorem cyB_iff {r : Int} {f : Fm} : cyB r f = true ↔ Cy r f := by
  unfold cyB
  rw [decide_eq_true_eq]
  exact ⟨fun ⟨a, b, c, d⟩ => ⟨a, b, c, d⟩, fun ⟨a, b, c, d⟩ => ⟨a, b, c, d⟩⟩
theorem nbg_disc (r : Int) (f : Fm) : fdisc (nbg r f) = fdisc f := nb_disc _ f
theorem fact_nmg (r : Int) (f : Fm) : fact f (nmg r f) = nbg r f := rfl
/-- The outer coefficients are not 0. -/
theorem outer {r : Int} {f : Fm} (hr : Rt r (fdisc f)) : f.1 ≠ 0 ∧ f.2.2 ≠ 0 := by
  have hn := hr.nsq
  constructor
  · intro e
    refine hn f.2.1 ?_
    unfold fdisc
    rw [e]; grind
  · intro e
    refine hn f.2.1 ?_
    unfold fdisc
    rw [e]; grind
/-- The neighbour's middle coefficient. -/
theorem nbg_mid (r : Int) (f : Fm) (hc : f.2.2 ≠ 0) : (nbg r f).1 = f.2.2 ∧ topR r f - 2 * (f.2.2.natAbs : Int) < (nbg r f).2.1 ∧ (nbg r f).2.1 ≤ topR r f := by
  unfold nbg
  rw [nb_val]
  simp only [nj]
  have hc1 : 1 ≤ (f.2.2.natAbs : Int) := by omega
  have hq := Int.mul_ediv_add_emod (topR r f + f.2.1) (2 * (f.2.2.natAbs : Int))
  have hm0 := Int.emod_nonneg (topR r f + f.2.1) (show 2 * (f.2.2.natAbs : Int) ≠ 0 by omega)
  have hm1 := Int.emod_lt_of_pos (topR r f + f.2.1) (show 0 < 2 * (f.2.2.natAbs : Int) by omega)
  generalize 2 * (f.2.2.natAbs : Int) * ((topR r f + f.2.1) / (2 * (f.2.2.natAbs : Int))) = z at *
  refine ⟨?_, by omega, by omega⟩
  first | rfl | trivial
theorem natAbs_mul4 {a c : Int} : 4 * ((a.natAbs : Int) * (c.natAbs : Int)) = ((4 * a * c).natAbs : Int) := by
  rw [Int.natAbs_mul, Int.natAbs_mul]
  push_cast
  rw [Int.mul_assoc]
theorem lt_of_mul4 {a c k : Int} (ha : 0 < a) (h : 4 * (a * c) < 4 * (a * k)) : c < k := Int.lt_of_mul_lt_mul_left (show a * c < a * k by omega) (by omega)
theorem natAbs_sq (b : Int) : (b.natAbs : Int) * (b.natAbs : Int) = b * b := by
  rcases Int.natAbs_eq b with e | e
  · rw [← e]
  · have e' : (b.natAbs : Int) = -b := by omega
    rw [e', Int.neg_mul_neg]
/-- A step that does not end in the cycle makes the last coefficient smaller. -/
theorem nbg_less {r : Int} {f : Fm} (hr : Rt r (fdisc f)) (hn : ¬ Cy r (nbg r f)) : ((nbg r f).2.2.natAbs : Int) < (f.2.2.natAbs : Int) := by
  obtain ⟨_, hc⟩ := outer hr
  obtain ⟨m1, m2, m3⟩ := nbg_mid r f hc
  have hd := nbg_disc r f
  have r0 := hr.r0
  have hlo := hr.lo
  have hhi := hr.hi
  rw [← hd] at hlo hhi
  generalize nbg r f = g at *
  obtain ⟨A, B, C⟩ := g
  simp only at m1 m2 m3 ⊢
  unfold topR at m2 m3
  rw [← m1] at hc m2 m3 ⊢
  have hA1 : 1 ≤ (A.natAbs : Int) := by omega
  have e4 := natAbs_mul4 (a := A) (c := C)
  simp only [fdisc] at hlo hhi
  have hbb := natAbs_sq B
  have hrr : 0 ≤ r * r := sq_pos
  have hnn : 0 ≤ (C.natAbs : Int) := by omega
  have hn' : ¬ (0 < B ∧ B ≤ r ∧ r - B < 2 * (A.natAbs : Int) ∧ 2 * (A.natAbs : Int) ≤ r + B) := fun ⟨x, y, z, w⟩ => hn ⟨x, y, z, w⟩
  clear hn hd
  generalize (A.natAbs : Int) = a at *
  generalize (C.natAbs : Int) = c at *
  generalize hβ : (B.natAbs : Int) = β at *
  rcases (show r < a ∨ a ≤ r by omega) with hra | hra
  · rw [if_neg (by omega)] at m2 m3
    -- |B| ≤ a
    have k1 := sq_le (a := β) (b := a) (by omega) (by omega)
    have k2 := sq_le (a := r + 1) (b := a) (by omega) (by omega)
    have hβ0 : 0 ≤ β * β := sq_pos
    have k3 : 4 * (a * c) ≤ a * a := by omega
    refine lt_of_mul4 (a := a) (by omega) ?_
    have := Int.mul_pos (show 0 < a by omega) (show 0 < a by omega)
    omega
  · rw [if_pos hra] at m2 m3
    have h2 : r + 1 + β ≤ 2 * a := by omega
    rcases (show β ≤ r ∨ r < β by omega) with hb | hb
    · have k1 := sq_le (a := β) (b := r) (by omega) hb
      have k2 : (r + 1 - β) * (r + 1 + β) ≤ (r + 1 - β) * (2 * a) := Int.mul_le_mul_of_nonneg_left h2 (by omega)
      have k3 : (r + 1 - β) * (r + 1 + β) = (r + 1) * (r + 1) - β * β := by grind
      have k4 : 4 * (a * c) < (r + 1 - β) * (2 * a) := by omega
      have k5 : (r + 1 - β) * (2 * a) ≤ (2 * a) * (2 * a) := Int.mul_le_mul_of_nonneg_right (by omega) (by omega)
      refine lt_of_mul4 (a := a) (by omega) ?_
      have : (2 * a) * (2 * a) = 4 * (a * a) := by grind
      omega
    · have k1 := sq_le (a := r) (b := β) (by omega) (by omega)
      have k2 : (β - r) * (β + r) ≤ (β - r) * (2 * a) := Int.mul_le_mul_of_nonneg_left (by omega) (by omega)
      have k3 : (β - r) * (β + r) = β * β - r * r := by grind
      have k6 := sq_le (a := r + 1) (b := β) (by omega) (by omega)
      have k4 : 4 * (a * c) < (β - r) * (2 * a) := by omega
      have k5 : (β - r) * (2 * a) ≤ (2 * a) * (2 * a) := Int.mul_le_mul_of_nonneg_right (by omega) (by omega)
      refine lt_of_mul4 (a := a) (by omega) ?_
      have : (2 * a) * (2 * a) = 4 * (a * a) := by grind
      omega
/-- Forms within bounds, of a positive discriminant. -/
structure Gd (r d : Int) (f : Fm) : Prop where
  a : -1000000 ≤ f.1 ∧ f.1 ≤ 1000000
  b : -1000000 ≤ f.2.1 ∧ f.2.1 ≤ 1000000
  c : -1000000 ≤ f.2.2 ∧ f.2.2 ≤ 1000000
  ds : fdisc f = d
  rt : Rt r d
  r31 : r ≤ 31
theorem Gd.root {r d : Int} {f : Fm} (h : Gd r d f) : Rt r (fdisc f) := by rw [h.ds]; exact h.rt
theorem Gd.next {r d : Int} {f : Fm} (h : Gd r d f) : Gd r d (nbg r f) ∧ -500000 ≤ nj (topR r f) f ∧ nj (topR r f) f ≤ 1000000 := by
  obtain ⟨_, hc⟩ := outer h.root
  obtain ⟨m1, m2, m3⟩ := nbg_mid r f hc
  have hd := nbg_disc r f
  obtain ⟨b1, b2⟩ := h.b
  obtain ⟨c1, c2⟩ := h.c
  have r31 := h.r31
  have r0 := h.rt.r0
  have hlo := h.rt.lo
  have hhi := h.rt.hi
  have hj : -500000 ≤ nj (topR r f) f ∧ nj (topR r f) f ≤ 1000000 := by
    have ht : 0 < topR r f ∧ topR r f ≤ 1000000 := by unfold topR; split <;> omega
    unfold nj
    generalize topR r f = t at *
    have hcc : 1 ≤ (f.2.2.natAbs : Int) := by omega
    generalize (f.2.2.natAbs : Int) = c at *
    constructor
    · refine Int.le_ediv_of_mul_le (by omega) ?_
      have : (-500000) * (2 * c) ≤ (-500000) * 2 := by omega
      omega
    · refine Int.le_of_lt_add_one (Int.ediv_lt_of_lt_mul (by omega) ?_)
      have := Int.mul_le_mul_of_nonneg_left (show 2 ≤ 2 * c by omega) (show (0 : Int) ≤ 1000000 + 1 by omega)
      omega
  refine ⟨⟨by rw [m1]; exact h.c, ?_, ?_, by rw [hd]; exact h.ds, h.rt, h.r31⟩, hj⟩
  · unfold topR at m2 m3
    split at m2 <;> split at m3 <;> omega
  · have hdd : fdisc (nbg r f) = d := by rw [hd]; exact h.ds
    generalize nbg r f = g at *
    obtain ⟨A, B, C⟩ := g
    simp only at m1 m2 m3 ⊢
    rw [← m1] at hc c1 c2
    unfold topR at m2 m3
    rw [← m1] at m2 m3
    have e4 := natAbs_mul4 (a := A) (c := C)
    simp only [fdisc] at hdd
    have hbb := natAbs_sq B
    have hA1 : 1 ≤ (A.natAbs : Int) := by omega
    have hc0 : 0 ≤ (C.natAbs : Int) := by omega
    have hfin : (C.natAbs : Int) ≤ 1000000 := by
      rcases (show r < A.natAbs ∨ (A.natAbs : Int) ≤ r by omega) with hra | hra
      · rw [if_neg (by omega)] at m2 m3
        have k1 := sq_le (a := (B.natAbs : Int)) (b := (A.natAbs : Int)) (by omega) (by omega)
        have k2 := sq_le (a := r + 1) (b := (A.natAbs : Int)) (by omega) (by omega)
        have hβ0 : 0 ≤ (B.natAbs : Int) * B.natAbs := sq_pos
        have hrr : 0 ≤ r * r := sq_pos
        have k3 : 4 * ((A.natAbs : Int) * C.natAbs) ≤ A.natAbs * A.natAbs := by omega
        have k4 : (A.natAbs : Int) * C.natAbs ≤ A.natAbs * A.natAbs := by
          have := Int.mul_nonneg (show 0 ≤ (A.natAbs : Int) by omega) hc0
          omega
        have := Int.le_of_mul_le_mul_left k4 (by omega)
        omega
      · rw [if_pos hra] at m2 m3
        have k1 := sq_le (a := (B.natAbs : Int)) (b := 31) (by omega) (by omega)
        have hβ0 : 0 ≤ (B.natAbs : Int) * B.natAbs := sq_pos
        have hrr : 0 ≤ r * r := sq_pos
        have k2 := sq_le (a := r + 1) (b := 32) (by omega) (by omega)
        have k3 := Int.mul_le_mul_of_nonneg_right hA1 hc0
        omega
    omega
/-- In the cycle the bound is the root. -/
theorem Cy.top {r : Int} {f : Fm} (h : Cy r f) (hr : Rt r (fdisc f)) : topR r f = r := by
  obtain ⟨h1, h2, h3, h4, h5⟩ := h.facts hr
  have br := h.br
  have b0 := h.b0
  have lo := h.lo
  have hi := h.hi
  unfold topR
  split
  · rfl
  · rename_i hgt
    exfalso
    have hlo := hr.lo
    have hhi := hr.hi
    obtain ⟨A, B, C⟩ := f
    simp only [fdisc] at *
    have e4 := natAbs_mul4 (a := A) (c := C)
    have e5 : 4 * (A * C) = 4 * A * C := by grind
    have hneg : ((4 * A * C).natAbs : Int) = -(4 * A * C) := by omega
    rw [hneg] at e4
    generalize (A.natAbs : Int) = a at *
    generalize (C.natAbs : Int) = c at *
    -- 4 a c = d - B² < (r+1)² - B² = (r + 1 - B)(r + 1 + B) ≤ 2 a (r + 1 + B)
    have k1 : (r + 1 - B) * (r + 1 + B) ≤ (2 * a) * (r + 1 + B) := Int.mul_le_mul_of_nonneg_right (by omega) (by omega)
    have k2 : (r + 1 - B) * (r + 1 + B) = (r + 1) * (r + 1) - B * B := by grind
    have k3 : (2 * a) * (2 * c) < (2 * a) * (r + 1 + B) := by
      have : (2 * a) * (2 * c) = 4 * (a * c) := by grind
      omega
    have := Int.lt_of_mul_lt_mul_left k3 (by omega)
    omega
theorem Cy.nbg {r : Int} {f : Fm} (h : Cy r f) (hr : Rt r (fdisc f)) : nbg r f = nb r f ∧ nmg r f = nm r f := by
  unfold Go.Proofs.Ytemnkfigjpphgaa.nbg nmg
  rw [h.top hr]
  exact ⟨rfl, rfl⟩
/-- The step is injective on the cycle. -/
theorem nb_inj {r : Int} {f g : Fm} (h : Cy r f) (hr : Rt r (fdisc f)) (h' : Cy r g) (hd : fdisc g = fdisc f) (he : nb r f = nb r g) : f = g := by
  have hr' : Rt r (fdisc g) := by rw [hd]; exact hr
  have hb : ∀ {f : Fm}, Cy r f → Rt r (fdisc f) → r < 2 * (f.2.2.natAbs : Int) + f.2.1 := by
    intro f h hr
    obtain ⟨h1, h2, h3, h4, h5⟩ := h.facts hr
    have br := h.br
    have b0 := h.b0
    have hi := h.hi
    have hlo := hr.lo
    obtain ⟨A, B, C⟩ := f
    simp only [fdisc] at *
    have e4 := natAbs_mul4 (a := A) (c := C)
    have e5 : 4 * (A * C) = 4 * A * C := by grind
    have hneg : ((4 * A * C).natAbs : Int) = -(4 * A * C) := by omega
    rw [hneg] at e4
    generalize (A.natAbs : Int) = a at *
    generalize (C.natAbs : Int) = c at *
    refine Int.lt_of_not_ge fun hle => ?_
    have k1 : (2 * c) * (2 * a) ≤ (r - B) * (2 * a) := Int.mul_le_mul_of_nonneg_right (by omega) (by omega)
    have k2 : (r - B) * (2 * a) ≤ (r - B) * (r + B) := Int.mul_le_mul_of_nonneg_left (by omega) (by omega)
    have k3 : (r - B) * (r + B) = r * r - B * B := by grind
    have k4 : (2 * c) * (2 * a) = 4 * (a * c) := by grind
    omega
  have b1 := hb h hr
  have b2 := hb h' hr'
  have br1 := h.br
  have br2 := h'.br
  have hc0 := (outer hr).2
  rw [nb_val, nb_val] at he
  obtain ⟨A, B, C⟩ := f
  obtain ⟨A', B', C'⟩ := g
  simp only [Prod.mk.injEq, fdisc] at *
  obtain ⟨rfl, e2, _⟩ := he
  generalize hj : nj r (A, B, C) = j at *
  generalize hj' : nj r (A', B', C) = j' at *
  have hc1 : 1 ≤ (C.natAbs : Int) := by omega
  have hBB : B = B' := by
    generalize (C.natAbs : Int) = c at *
    have e3 : B - B' = 2 * c * (j - j') := by grind
    rcases (show j - j' = 0 ∨ 1 ≤ j - j' ∨ j - j' ≤ -1 by omega) with h0 | h0 | h0
    · rw [h0, Int.mul_zero] at e3; omega
    · have := Int.mul_le_mul_of_nonneg_left h0 (show 0 ≤ 2 * c by omega)
      omega
    · have := Int.mul_le_mul_of_nonneg_left h0 (show 0 ≤ 2 * c by omega)
      omega
  subst hBB
  have e6 : C * A = C * A' := by
    have : 4 * A * C = 4 * A' * C := by omega
    have e7 : 4 * A * C = 4 * (C * A) := by grind
    have e8 : 4 * A' * C = 4 * (C * A') := by grind
    omega
  exact ⟨Int.eq_of_mul_eq_mul_left hc0 e6, rfl, rfl⟩
theorem nbn_back {r : Int} {f : Fm} (h : Cy r f) (hr : Rt r (fdisc f)) (d : Nat) : ∀ i, nbn r (i + d) f = nbn r i f → nbn r d f = f
  | 0, e => by rw [Nat.zero_add] at e; exact e
  | i + 1, e => by
    refine nbn_back h hr d i ?_
    rw [show i + 1 + d = (i + d) + 1 by omega, nbn_succ, nbn_succ] at e
    obtain ⟨c1, c2⟩ := h.nth (i + d) hr
    obtain ⟨c3, c4⟩ := h.nth i hr
    refine nb_inj c1 c2 c3 ?_ e
    rw [← fact_nmn r i f, ← fact_nmn r (i + d) f, fdisc_fact, fdisc_fact, nmn_det, nmn_det]
theorem nbn_disc (r : Int) (n : Nat) (f : Fm) : fdisc (nbn r n f) = fdisc f := by
  rw [← fact_nmn, fdisc_fact, nmn_det]; omega
theorem pigeonN : ∀ (N : Nat) (f : Nat → Nat), (∀ i, i ≤ N → f i < N) → ∃ i j, i < j ∧ j ≤ N ∧ f i = f j := by
  intro N
  induction N with
  | zero => intro f h; exact absurd (h 0 (Nat.le_refl _)) (by omega)
  | succ N ih =>
    intro f h
    by_cases hv : ∃ i, i ≤ N ∧ f i = f (N + 1)
    · obtain ⟨i, hi, he⟩ := hv
      exact ⟨i, N + 1, by omega, by omega, he⟩
    · have hne : ∀ i, i ≤ N → f i ≠ f (N + 1) := fun i hi he => hv ⟨i, hi, he⟩
      obtain ⟨i, j, hij, hj, he⟩ := ih (fun i => if f i = N then f (N + 1) else f i) (fun i hi => by
        have h1 := h i (by omega)
        have h2 := hne i hi
        have h3 := h (N + 1) (by omega)
        show (if f i = N then f (N + 1) else f i) < N
        split <;> omega)
      refine ⟨i, j, hij, by omega, ?_⟩
      have h2 := hne i (by omega)
      have h3 := hne j hj
      have he' : (if f i = N then f (N + 1) else f i) = (if f j = N then f (N + 1) else f j) := he
      split at he' <;> split at he' <;> omega
def ccode (f : Fm) : Nat := ((f.1 + 31) * 32 + f.2.1).toNat
/-- The cycle comes back. -/
theorem nbn_period {r : Int} {f : Fm} (h : Cy r f) (hr : Rt r (fdisc f)) (h31 : r ≤ 31) : ∃ n, 1 ≤ n ∧ n ≤ 2100 ∧ nbn r n f = f := by
  have hb : ∀ i, -31 ≤ (nbn r i f).1 ∧ (nbn r i f).1 ≤ 31 ∧ 0 < (nbn r i f).2.1 ∧ (nbn r i f).2.1 ≤ 31 := by
    intro i
    obtain ⟨⟨x1, x2, x3, x4⟩, _⟩ := h.nth i hr
    omega
  obtain ⟨i, j, hij, hj, he⟩ := pigeonN 2100 (fun k => ccode (nbn r k f)) (fun k _ => by
    have := hb k
    show ccode _ < _
    unfold ccode
    omega)
  refine ⟨j - i, by omega, by omega, nbn_back h hr (j - i) i ?_⟩
  rw [show i + (j - i) = j by omega]
  have hi := hb i
  have hj2 := hb j
  have he' : ccode (nbn r i f) = ccode (nbn r j f) := he
  unfold ccode at he'
  have d1 := nbn_disc r i f
  have d2 := nbn_disc r j f
  obtain ⟨_, q⟩ := h.nth i hr
  have hA := (outer q).1
  generalize nbn r i f = x at *
  generalize nbn r j f = y at *
  obtain ⟨x1, x2, x3⟩ := x
  obtain ⟨y1, y2, y3⟩ := y
  simp only [fdisc] at *
  have a1 : x1 = y1 := by omega
  have a2 : x2 = y2 := by omega
  subst a1 a2
  have : x1 * x3 = x1 * y3 := by
    have e7 : 4 * x1 * x3 = 4 * (x1 * x3) := by grind
    have e8 : 4 * x1 * y3 = 4 * (x1 * y3) := by grind
    omega
  rw [Int.eq_of_mul_eq_mul_left hA this]
/-- The first return. -/
theorem nbn_first {r : Int} {f : Fm} (h : Cy r f) (hr : Rt r (fdisc f)) (h31 : r ≤ 31) : ∃ n, 1 ≤ n ∧ n ≤ 2100 ∧ nbn r n f = f ∧ ∀ k, 0 < k → k < n → nbn r k f ≠ f := by
  obtain ⟨n, n1, n2, n3⟩ := nbn_period h hr h31
  clear hr h31 h
  induction n using Nat.strongRecOn with
  | _ n ih =>
    by_cases hx : ∃ k, 0 < k ∧ k < n ∧ nbn r k f = f
    · obtain ⟨k, k1, k2, k3⟩ := hx
      exact ih k k2 k1 (by omega) k3
    · exact ⟨n, n1, n2, n3, fun k k1 k2 k3 => hx ⟨k, k1, k2, k3⟩⟩
theorem nbn_mul {r : Int} {f : Fm} {n : Nat} (h : nbn r n f = f) : ∀ k, nbn r (k * n) f = f
  | 0 => by rw [Nat.zero_mul]; rfl
  | k + 1 => by rw [Nat.succ_mul, nbn_add, nbn_mul h k, h]
theorem nbn_mod {r : Int} {f : Fm} {n : Nat} (h : nbn r n f = f) (i : Nat) : nbn r i f = nbn r (i % n) f := by
  have : i = (i / n) * n + i % n := by rw [Nat.mul_comm]; exact (Nat.div_add_mod i n).symm
  conv => lhs; rw [this]
  rw [nbn_add, nbn_mul h]
/-- The forms of a cycle. -/
def cyc (r : Int) (n : Nat) (f : Fm) : List Fm := (List.range n).map fun i => nbn r i f
theorem cyc_succ (r : Int) (n : Nat) (f : Fm) : cyc r (n + 1) f = cyc r n f ++ [nbn r n f] := by
  unfold cyc; rw [List.range_succ, List.map_append]; rfl
theorem cyc_length (r : Int) (n : Nat) (f : Fm) : (cyc r n f).length = n := by simp [cyc]
theorem cyc_get (r : Int) (n : Nat) (f : Fm) (i : Nat) (h : i < n) : (cyc r n f)[i]? = some (nbn r i f) := by
  unfold cyc; rw [List.getElem?_map, List.getElem?_range h]; rfl
theorem mem_cyc {r : Int} {n : Nat} {f g : Fm} : g ∈ cyc r n f ↔ ∃ i, i < n ∧ nbn r i f = g := by
  unfold cyc
  rw [List.mem_map]
  exact ⟨fun ⟨i, h1, h2⟩ => ⟨i, List.mem_range.1 h1, h2⟩, fun ⟨i, h1, h2⟩ => ⟨i, List.mem_range.2 h1, h2⟩⟩
/-- To be in each other's cycle. -/
theorem cyc_symm {r : Int} {n m : Nat} {f g : Fm} (hn : 1 ≤ n) (hf : nbn r n f = f) (hm : 1 ≤ m) (hg : nbn r m g = g) : g ∈ cyc r n f → f ∈ cyc r m g := by
  rw [mem_cyc, mem_cyc]
  rintro ⟨i, h1, rfl⟩
  refine ⟨(n - i) % m, Nat.mod_lt _ (by omega), ?_⟩
  rw [← nbn_mod hg, ← nbn_add, show i + (n - i) = n by omega, hf]
/-- What a reduction returns. -/
inductive Rd (r : Int) : Fm → Mt → Fm → Mt → Bool → Prop
  | stop {f M} : cyB r f = true → Rd r f M f M true
  | bad {f M} : cyB r f = false → ¬ mle 1000000 (mm M (nmg r f)) → Rd r f M (0, 0, 0) (0, 0, 0, 0) false
  | next {f M g N ok} : cyB r f = false → mle 1000000 (mm M (nmg r f)) → Rd r (nbg r f) (mm M (nmg r f)) g N ok → Rd r f M g N ok
theorem Rd.same {r : Int} {f : Fm} {M : Mt} {g N ok} (h : Rd r f M g N ok) : ∀ {g' N' ok'}, Rd r f M g' N' ok' → g = g' ∧ N = N' ∧ ok = ok' := by
  induction h with
  | stop h =>
    intro g' N' ok' h'
    cases h' with
    | stop _ => exact ⟨rfl, rfl, rfl⟩
    | bad h2 _ => rw [h] at h2; cases h2
    | next h2 _ _ => rw [h] at h2; cases h2
  | bad h hm =>
    intro g' N' ok' h'
    cases h' with
    | stop h2 => rw [h] at h2; cases h2
    | bad _ _ => exact ⟨rfl, rfl, rfl⟩
    | next _ h3 _ => exact absurd h3 hm
  | next h hm _ ih =>
    intro g' N' ok' h'
    cases h' with
    | stop h2 => rw [h] at h2; cases h2
    | bad _ h3 => exact absurd hm h3
    | next _ _ h4 => exact ih h4
/-- What holds of the result. -/
theorem Rd.facts {r d : Int} {f : Fm} {M : Mt} {g N ok} (h : Rd r f M g N ok) (hf : Gd r d f) (hm : mle 1000000 M) (hM : mdet M = 1) (hok : ok = true) : cyB r g = true ∧ Gd r d g ∧ mle 1000000 N ∧ mdet N = 1 ∧ ∀ f0, fact f0 M = f → fact f0 N = g := by
  induction h with
  | stop h => exact ⟨h, hf, hm, hM, fun _ h => h⟩
  | bad _ _ => cases hok
  | @next f M g N ok h hm' _ ih =>
    obtain ⟨a, b, c, e, k⟩ := ih hf.next.1 hm' (by rw [mdet_mm, hM]; unfold nmg; rw [nm_det]; rfl) hok
    exact ⟨a, b, c, e, fun f0 h0 => k f0 (by rw [fact_mm, h0]; rfl)⟩
/-- How far it still is. -/
def cMs (r : Int) (f : Fm) : Nat := if cyB r f = true then 0 else f.2.2.natAbs + 1
theorem cMs_less {r : Int} {f : Fm} (hr : Rt r (fdisc f)) (h : cyB r f = false) : cMs r (nbg r f) < cMs r f := by
  unfold cMs
  rw [if_neg (show ¬ cyB r f = true by rw [h]; simp)]
  by_cases hn : cyB r (nbg r f) = true
  · rw [if_pos hn]; omega
  · rw [if_neg hn]
    have := nbg_less hr (fun hc => hn (cyB_iff.2 hc))
    omega
/-- The numbers of a step. -/
theorem nbg_vals {r d a b c : Int} (h : Gd r d (a, b, c)) : ∃ t B C S, nbg r (a, b, c) = (c, B, C) ∧ nmg r (a, b, c) = (0, -1, 1, S) ∧ c ≠ 0 ∧ t = (if (c.natAbs : Int) ≤ r then r else (c.natAbs : Int)) ∧ B = t - (t + b) % (2 * (c.natAbs : Int)) ∧ B * B - d = 4 * c * C ∧ b + B = 2 * c * S ∧ (-1000000 ≤ B ∧ B ≤ 1000000) ∧ (-1000000 ≤ C ∧ C ≤ 1000000) ∧ (-1000000 ≤ S ∧ S ≤ 1000000) ∧ 0 < t ∧ t ≤ 1000000 ∧ C = a - b * S + c * S * S ∧ B = 2 * c * S - b := by
  obtain ⟨_, hc⟩ := outer h.root
  obtain ⟨hn, j1, j2⟩ := h.next
  have hd : fdisc (nbg r (a, b, c)) = d := by rw [nbg_disc]; exact h.ds
  have hv := nb_val (topR r (a, b, c)) (a, b, c)
  obtain ⟨c1, c2⟩ := h.c
  have r31 := h.r31
  have r0 := h.rt.r0
  have hS : nmg r (a, b, c) = (0, -1, 1, if c < 0 then -nj (topR r (a, b, c)) (a, b, c) else nj (topR r (a, b, c)) (a, b, c)) := rfl
  have hq := Int.mul_ediv_add_emod (topR r (a, b, c) + b) (2 * (c.natAbs : Int))
  have hjd : nj (topR r (a, b, c)) (a, b, c) = (topR r (a, b, c) + b) / (2 * (c.natAbs : Int)) := rfl
  rw [← hjd] at hq
  have ht : topR r (a, b, c) = (if (c.natAbs : Int) ≤ r then r else (c.natAbs : Int)) := rfl
  have htb : 0 < topR r (a, b, c) ∧ topR r (a, b, c) ≤ 1000000 := by rw [ht]; simp only at c1 c2 hc; split <;> omega
  have e1 : (nbg r (a, b, c)).1 = c := by unfold nbg; rw [hv]
  have e2 : (nbg r (a, b, c)).2.1 = 2 * (c.natAbs : Int) * nj (topR r (a, b, c)) (a, b, c) - b := by unfold nbg; rw [hv]
  have e3 : (nbg r (a, b, c)).2.2 = if c < 0 then a + b * nj (topR r (a, b, c)) (a, b, c) + c * (nj (topR r (a, b, c)) (a, b, c) * nj (topR r (a, b, c)) (a, b, c)) else a - b * nj (topR r (a, b, c)) (a, b, c) + c * (nj (topR r (a, b, c)) (a, b, c) * nj (topR r (a, b, c)) (a, b, c)) := by unfold nbg; rw [hv]
  have hb := hn.b
  have hcc := hn.c
  generalize nj (topR r (a, b, c)) (a, b, c) = j at *
  rw [← ht]
  generalize topR r (a, b, c) = t at *
  obtain ⟨⟨G1, G2, G3⟩, hg⟩ : ∃ G, nbg r (a, b, c) = G := ⟨_, rfl⟩
  rw [hg]
  rw [hg] at e1 e2 e3 hd hb hcc
  simp only [fdisc] at e1 e2 e3 hd hb hcc hc
  subst e1
  refine ⟨t, G2, G3, if G1 < 0 then -j else j, rfl, hS, hc, rfl, by omega, by omega, ?_, hb, hcc, ?_, htb.1, htb.2, ?_, ?_⟩
  · by_cases h : G1 < 0
    · rw [if_pos h]
      rw [show (G1.natAbs : Int) = -G1 by omega] at e2
      grind
    · rw [if_neg h]
      rw [show (G1.natAbs : Int) = G1 by omega] at e2
      grind
  · split <;> omega
  · rw [e3]
    by_cases h : G1 < 0
    · rw [if_pos h, if_pos h]; grind
    · rw [if_neg h, if_neg h]; grind
  · by_cases h : G1 < 0
    · rw [if_pos h]
      rw [show (G1.natAbs : Int) = -G1 by omega] at e2
      grind
    · rw [if_neg h]
      rw [show (G1.natAbs : Int) = G1 by omega] at e2
      grind
end Go.Proofs.Ytemnkfigjpphgaa

/-
  The contracts of the functions of chapter 1 (integers): what each call returns, for arguments that fit in 64 bits.
-/
namespace Go.Proofs.Ytemnkfigjpphgaa
open Go.RowKit
attribute [local simp, local go_sem] past_cell past_frozen past_tape

theorem abs_any (n : Int) (w : World) (h : I64 n) :
    Calls Try.prog 51 #[.int .i64 n] w fun e w' => e = .returned (.int .i64 (absI n)) ∧ w = w' := by
  obtain ⟨h1, h2⟩ := h
  by_cases hm : n < -9223372036854775807
  all_goals
    go_enter Try.func51, Try.ntmps51
    go_wp2
  all_goals
    go_ret
    refine ⟨ret_int ?_, rfl⟩
    unfold absI
    repeat' split
    all_goals omega
theorem abs_nat (n : Int) (w : World) (h : J64 n) :
    Calls Try.prog 51 #[.int .i64 n] w fun e w' => e = .returned (.int .i64 n.natAbs) ∧ w = w' :=
  (abs_any n w h.i).mono fun _ _ ⟨he, hw⟩ => ⟨by rw [he, absI_of h], hw⟩
theorem gcd_step (a b : Int) : Int.gcd b (a.tmod b) = Int.gcd a b := by
  rw [Int.gcd_comm a b]
  unfold Int.gcd
  rw [Int.natAbs_tmod]
  rw [Nat.gcd_comm, Nat.gcd_comm b.natAbs a.natAbs, Nat.gcd_comm a.natAbs b.natAbs]
  exact (Nat.gcd_rec b.natAbs a.natAbs).symm
theorem tmod_J (a : Int) {b : Int} (hb : J64 b) (h : b ≠ 0) : J64 (a.tmod b) ∧ (a.tmod b).natAbs < b.natAbs := by
  have h1 : (a.tmod b).natAbs < b.natAbs := by rw [Int.natAbs_tmod]; exact Nat.mod_lt _ (by omega)
  obtain ⟨b1, b2⟩ := hb
  exact ⟨⟨by omega, by omega⟩, h1⟩
set_option maxHeartbeats 400000 in
theorem gcd_any (a b : Int) (w : World) (ha : J64 a) (hb : J64 b) :
    Calls Try.prog 122 #[.int .i64 a, .int .i64 b] w fun e w' => e = .returned (.int .i64 (Int.gcd a b)) ∧ ∃ n, w' = w.drewN n := by
  go_enter Try.func122, Try.ntmps122
  go_wp2
  go_loopw [0, 1] (fun x y wr => ∃ p q : Int, ∃ n : Nat, J64 p ∧ J64 q ∧ Int.gcd p q = Int.gcd a b ∧ x = .int .i64 p ∧ y = .int .i64 q ∧ wr = w.drewN n) (fun _ y _ => (intOf y).natAbs)
  case atStart => exact ⟨a, b, 0, ha, hb, rfl, rfl, rfl, rfl⟩
  case round =>
    obtain ⟨p, q, n, hp, hq, hg, rfl, rfl, rfl⟩ := hrel
    have HG := Lib.hid hg
    clear hg
    by_cases h0 : q = 0
    · subst h0
      go_wp2_with (go_at_call 51; refine (abs_nat _ _ hp).mono ?_; rintro e w' ⟨rfl, rfl⟩)
      go_ret
      exact ⟨ret_int (by rw [← HG.out, Int.gcd_zero_right]), n, rfl⟩
    · have hlt := tmod_J p hq h0
      have hst := Lib.hid (gcd_step p q)
      have hm1 := hlt.1.1
      have hm2 := hlt.1.2
      go_wp2
      go_region
      go_wp2
      go_roundw
      case rel => exact ⟨_, _, n + 1, hq, hlt.1, by rw [hst.out, HG.out], rfl, rfl, rfl⟩
      case measure => exact hlt.2
def modI (a m : Int) : Int := a % m
theorem mod_any (a m : Int) (w : World) (ha : I64 a) (h1 : 1 ≤ m) (h2 : m ≤ 9223372036854775807) :
    Calls Try.prog 101 #[.int .i64 a, .int .i64 m] w fun e w' => e = .returned (.int .i64 (a % m)) ∧ w = w' := by
  obtain ⟨a1, a2⟩ := ha
  have k1 := Int.emod_lt_of_pos a (show 0 < m by omega)
  have k2 := Int.emod_nonneg a (show m ≠ 0 by omega)
  have k3 : a.tmod m = if 0 ≤ a ∨ a % m = 0 then a % m else a % m - m := by
    rw [Int.tmod_eq_emod]; split <;> split <;> first | rfl | (rename_i p q; simp_all [Int.dvd_iff_emod_eq_zero]; done) | (rename_i p q; simp_all [Int.dvd_iff_emod_eq_zero]; omega)
  by_cases c : 0 ≤ a ∨ a % m = 0
  · rw [if_pos c] at k3
    go_enter Try.func101, Try.ntmps101
    go_wp2
    go_ret
    exact ⟨rfl, rfl⟩
  · rw [if_neg c] at k3
    go_enter Try.func101, Try.ntmps101
    go_wp2
    go_ret
    exact ⟨ret_int (by omega), rfl⟩
theorem l1Most_any (a b : Int) (w : World) :
    Calls Try.prog 126 #[.int .i64 a, .int .i64 b] w fun e w' => e = .returned (.int .i64 (max a b)) ∧ w = w' := by
  go_enter Try.func126, Try.ntmps126
  go_wp2
  all_goals
    go_ret
    exact ⟨ret_int (by omega), rfl⟩
theorem l1Abs_any (a : Int) (w : World) (ha : J64 a) :
    Calls Try.prog 107 #[.int .i64 a] w fun e w' => e = .returned (.int .i64 a.natAbs) ∧ w = w' := by
  obtain ⟨a1, a2⟩ := ha
  go_enter Try.func107, Try.ntmps107
  go_wp2_with (go_at_call 126; refine (l1Most_any _ _ _).mono ?_; rintro e w' ⟨rfl, rfl⟩)
  go_ret
  exact ⟨ret_int (by omega), rfl⟩
set_option maxHeartbeats 400000 in
theorem nuGcd_any (a b : Int) (w : World) (ha : J64 a) (hb : J64 b) :
    Calls Try.prog 129 #[.int .i64 a, .int .i64 b] w fun e w' => e = .returned (.int .i64 (Int.gcd a b)) ∧ ∃ n, w' = w.drewN n := by
  have ja : J64 (a.natAbs : Int) := ⟨by omega, by have := ha.1; have := ha.2; omega⟩
  have jb : J64 (b.natAbs : Int) := ⟨by omega, by have := hb.1; have := hb.2; omega⟩
  go_enter Try.func129, Try.ntmps129
  go_wp2_with (go_at_call 107; refine (l1Abs_any _ _ (by assumption)).mono ?_; rintro e w' ⟨rfl, rfl⟩)
  go_loopw [0, 1] (fun x y wr => ∃ p q : Int, ∃ n : Nat, J64 p ∧ J64 q ∧ 0 ≤ p ∧ 0 ≤ q ∧ Int.gcd p q = Int.gcd a b ∧ x = .int .i64 p ∧ y = .int .i64 q ∧ wr = w.drewN n) (fun _ y _ => (intOf y).natAbs)
  case atStart => exact ⟨a.natAbs, b.natAbs, 0, ja, jb, by omega, by omega, by simp [Int.gcd], rfl, rfl, rfl⟩
  case round =>
    obtain ⟨p, q, n, hp, hq, p0, q0, hg, rfl, rfl, rfl⟩ := hrel
    have HG := Lib.hid hg
    clear hg
    by_cases h0 : q = 0
    · subst h0
      go_wp2
      go_ret
      exact ⟨ret_int (by rw [← HG.out, Int.gcd_zero_right]; omega), n, rfl⟩
    · have hlt := tmod_J p hq h0
      have hst := gcd_step p q
      have hm3 := Int.tmod_nonneg q p0
      rw [Int.tmod_eq_emod_of_nonneg p0] at hlt hst hm3
      have hst := Lib.hid hst
      have hm1 := hlt.1.1
      have hm2 := hlt.1.2
      go_wp2
      go_region
      go_wp2
      go_roundw
      case rel => exact ⟨_, _, n + 1, hq, hlt.1, q0, hm3, by rw [hst.out, HG.out], rfl, rfl, rfl⟩
      case measure => exact hlt.2
theorem nuMod_any (a m : Int) (w : World) (ha : I64 a) (h1 : 1 ≤ m) (h2 : m ≤ 9223372036854775807) :
    Calls Try.prog 102 #[.int .i64 a, .int .i64 m] w fun e w' => e = .returned (.int .i64 (a % m)) ∧ w = w' := by
  obtain ⟨a1, a2⟩ := ha
  have k1 := Int.emod_lt_of_pos a (show 0 < m by omega)
  have k2 := Int.emod_nonneg a (show m ≠ 0 by omega)
  have k3 : a.tmod m = if 0 ≤ a ∨ a % m = 0 then a % m else a % m - m := by
    rw [Int.tmod_eq_emod]; split <;> split <;> first | rfl | (rename_i p q; simp_all [Int.dvd_iff_emod_eq_zero]; done) | (rename_i p q; simp_all [Int.dvd_iff_emod_eq_zero]; omega)
  by_cases c : 0 ≤ a ∨ a % m = 0
  · rw [if_pos c] at k3
    go_enter Try.func102, Try.ntmps102
    go_wp2
    go_ret
    exact ⟨rfl, rfl⟩
  · rw [if_neg c] at k3
    go_enter Try.func102, Try.ntmps102
    go_wp2
    go_ret
    exact ⟨ret_int (by omega), rfl⟩
def inB (n lo hi : Int) : Bool := decide (lo ≤ n ∧ n ≤ hi)
theorem l1In_any (n lo hi : Int) (w : World) :
    Calls Try.prog 47 #[.int .i64 n, .int .i64 lo, .int .i64 hi] w fun e w' => e = .returned (.bool (inB n lo hi)) ∧ w = w' := by
  go_enter Try.func47, Try.ntmps47
  go_wp2
  all_goals
    go_ret
    refine ⟨ret_bool ?_, rfl⟩
    (try unfold inB)
    (first | (symm; apply decide_eq_true; omega) | (symm; apply decide_eq_false; omega) | (rw [decide_eq_decide]; omega))
/-- A number in the sense of the program. -/
def numB (n : Int) : Bool := decide (-1000000 ≤ n ∧ n ≤ 1000000)
theorem numB_bd {n : Int} (h : numB n = true) : Bd 1000000 n := by
  unfold numB at h
  have h := of_decide_eq_true h
  exact ⟨h.1, h.2⟩
theorem all_take_succ (l : List Int) (k : Nat) (h : k < l.length) : (l.take (k + 1)).all numB = ((l.take k).all numB && numB (l.getD k 0)) := by
  rw [List.take_succ_eq_append_getElem h, List.all_append]
  simp [List.getD_eq_getElem?_getD, h]
theorem all_false (l : List Int) (k : Nat) (h : k < l.length) (hn : numB (l.getD k 0) = false) : l.all numB = false := by
  rw [List.all_eq_false]
  refine ⟨l[k], List.getElem_mem h, ?_⟩
  have e : l.getD k 0 = l[k] := by simp [List.getD_eq_getElem?_getD, h]
  rw [e] at hn
  simp [hn]
set_option maxHeartbeats 400000 in
theorem areNumbers_any (l : List Int) (g : Nat) (w : World) (hl : l.length ≤ 1000) (hc : ∀ i, i < l.length → w.cell? ⟨g, i, none⟩ = some (.int .i64 (l.getD i 0))) :
    Calls Try.prog 104 #[.slice (some ⟨g, 0, none⟩) l.length l.length] w fun e w' => e = .returned (.bool (l.all numB)) ∧ w = w' := by
  have HC := Lib.hid hc
  clear hc
  go_enter Try.func104, Try.ntmps104
  go_wp2
  go_loop [7] (fun i => ∃ k : Nat, k ≤ l.length ∧ i = .int .i64 k ∧ Hid ((l.take k).all numB = true)) (fun i => l.length - (intOf i).toNat)
  case atStart => exact ⟨0, Nat.zero_le _, rfl, by show _ = _; simp⟩
  case round =>
    obtain ⟨k, hk, rfl, hall⟩ := hrel
    by_cases hlt : k < l.length
    · have hcell := HC.out k hlt
      have HT := Lib.hid (all_take_succ l k hlt)
      have HN := Lib.hid (all_false l k hlt)
      generalize l.getD k 0 = z at *
      go_wp2
      all_goals first
        | (go_round
           case rel =>
             go_light
             refine ⟨k + 1, by omega, by go_num, ?_⟩
             show _ = _
             rw [HT.out, hall.out, Bool.true_and]
             unfold numB
             exact decide_eq_true ⟨by omega, by omega⟩
           case measure => simp [intOf]; omega)
        | (go_ret
           refine ⟨ret_bool ?_, rfl⟩
           go_light
           rw [HN.out (by unfold numB; exact decide_eq_false (by omega))])
    · go_wp2
      go_ret
      refine ⟨ret_bool ?_, rfl⟩
      have := hall.out
      rw [List.take_of_length_le (by omega)] at this
      exact this.symm
end Go.Proofs.Ytemnkfigjpphgaa

/-
  Contracts of the functions on forms and matrices.
-/
namespace Go.Proofs.Ytemnkfigjpphgaa
open Go.RowKit
attribute [local simp, local go_sem] past_cell past_frozen past_tape
def formB (a b c : Int) : Bool := numB a && numB b && numB c
theorem formB_all (a b c : Int) : [a, b, c].all numB = formB a b c := by simp [formB, Bool.and_assoc]
theorem formB_bd {a b c : Int} (h : formB a b c = true) : Bd 1000000 a ∧ Bd 1000000 b ∧ Bd 1000000 c := by
  simp only [formB, Bool.and_eq_true] at h
  exact ⟨numB_bd h.1.1, numB_bd h.1.2, numB_bd h.2⟩
theorem IsForm_any (a b c : Int) (w : World) :
    Calls Try.prog 83 #[.agg #[.int .i64 a, .int .i64 b, .int .i64 c]] w fun e w' => e = .returned (.bool (formB a b c)) ∧ Below w.heap.size w w' := by

  go_enter Try.func83, Try.ntmps83
  go_wp2_with (go_at_call 104; refine (areNumbers_any [a, b, c] _ _ (by simp) ?hc).mono ?_)
  case hc => intro i hi; match i, hi with | 0, _ => simp [go_sem] | 1, _ => simp [go_sem] | 2, _ => simp [go_sem]
  rintro e w' ⟨rfl, rfl⟩
  go_wp2
  go_ret
  refine ⟨ret_bool (by simp [formB, Bool.and_assoc]), ?_⟩
  repeat (first | with_reducible exact Below.refl _ _ | with_reducible assumption | ((with_reducible refine blA ?_ ?_); (focus (first | omega | (simp <;> omega)))) | (with_reducible refine blD ?_) | (with_reducible refine blN ?_) | ((with_reducible refine blS ?_ ?_); (focus (first | omega | (simp <;> omega)))) | ((with_reducible refine blT (by assumption) ?_ ?_); (focus (first | omega | (simp <;> omega)))))
theorem nuGood_any (n : Int) (w : World) :
    Calls Try.prog 108 #[.int .i64 n] w fun e w' => e = .returned (.bool (numB n)) ∧ w = w' := by
  go_enter Try.func108, Try.ntmps108
  go_wp2_with (go_at_call 47; refine (l1In_any _ _ _ _).mono ?_; rintro e w' ⟨rfl, rfl⟩)
  go_ret
  exact ⟨rfl, rfl⟩
theorem foGood_any (a b c : Int) (w : World) :
    Calls Try.prog 112 #[.agg #[.int .i64 a, .int .i64 b, .int .i64 c]] w fun e w' => e = .returned (.bool (formB a b c)) ∧ Below w.heap.size w w' := by
  go_enter Try.func112, Try.ntmps112
  go_wp2_with (go_at_call 108; refine (nuGood_any _ _).mono ?_; rintro e w' ⟨rfl, rfl⟩)
  all_goals
    go_ret
    refine ⟨ret_bool ?_, ?_⟩
    · go_light; simp [formB, *]
    · repeat (first | with_reducible exact Below.refl _ _ | with_reducible assumption | ((with_reducible refine blA ?_ ?_); (focus (first | omega | (simp <;> omega)))) | (with_reducible refine blD ?_) | (with_reducible refine blN ?_) | ((with_reducible refine blS ?_ ?_); (focus (first | omega | (simp <;> omega)))) | ((with_reducible refine blT (by assumption) ?_ ?_); (focus (first | omega | (simp <;> omega)))))
/-- The discriminant, as 64 bits have it. -/
def discW (a b c : Int) : Int := wrap64 (wrap64 (b * b) - wrap64 (wrap64 (4 * a) * c))
theorem discW_eq {a b c : Int} (ha : Bd 1000000 a) (hb : Bd 1000000 b) (hc : Bd 1000000 c) : discW a b c = b * b - 4 * a * c := by
  have h1 := mul_bd hb hb (show (1000000 : Int) * 1000000 ≤ 1000000000000 by decide)
  have h2 := mul_bd (show Bd 4000000 (4 * a) from ⟨by have := ha.1; omega, by have := ha.2; omega⟩) hc (show (4000000 : Int) * 1000000 ≤ 4000000000000 by decide)
  obtain ⟨a1, a2⟩ := ha
  obtain ⟨b1, b2⟩ := h1
  obtain ⟨c1, c2⟩ := h2
  unfold discW
  rw [IntWalk.wrap64_in (4 * a) ⟨by omega, by omega⟩, IntWalk.wrap64_in (b * b) ⟨by omega, by omega⟩, IntWalk.wrap64_in (4 * a * c) ⟨by omega, by omega⟩, IntWalk.wrap64_in _ ⟨by omega, by omega⟩]
theorem disc_any (a b c : Int) (w : World) :
    Calls Try.prog 111 #[.agg #[.int .i64 a, .int .i64 b, .int .i64 c]] w fun e w' => e = .returned (.int .i64 (discW a b c)) ∧ Below w.heap.size w w' := by
  go_enter Try.func111, Try.ntmps111
  go_wp2
  go_ret
  refine ⟨rfl, ?_⟩
  repeat (first | with_reducible exact Below.refl _ _ | with_reducible assumption | ((with_reducible refine blA ?_ ?_); (focus (first | omega | (simp <;> omega)))) | (with_reducible refine blD ?_) | (with_reducible refine blN ?_) | ((with_reducible refine blS ?_ ?_); (focus (first | omega | (simp <;> omega)))) | ((with_reducible refine blT (by assumption) ?_ ?_); (focus (first | omega | (simp <;> omega)))))
theorem foDisc_any (a b c : Int) (w : World) :
    Calls Try.prog 74 #[.agg #[.int .i64 a, .int .i64 b, .int .i64 c]] w fun e w' => e = .returned (.int .i64 (discW a b c)) ∧ Below w.heap.size w w' := by
  go_enter Try.func74, Try.ntmps74
  go_wp2
  go_ret
  refine ⟨rfl, ?_⟩
  repeat (first | with_reducible exact Below.refl _ _ | with_reducible assumption | ((with_reducible refine blA ?_ ?_); (focus (first | omega | (simp <;> omega)))) | (with_reducible refine blD ?_) | (with_reducible refine blN ?_) | ((with_reducible refine blS ?_ ?_); (focus (first | omega | (simp <;> omega)))) | ((with_reducible refine blT (by assumption) ?_ ?_); (focus (first | omega | (simp <;> omega)))))
/-- The value at x and y, as 64 bits have it. -/
def valW (a b c x y : Int) : Int := wrap64 (wrap64 (wrap64 (wrap64 (a * x) * x) + wrap64 (wrap64 (b * x) * y)) + wrap64 (wrap64 (c * y) * y))
theorem at_any (a b c x y : Int) (w : World) :
    Calls Try.prog 117 #[.agg #[.int .i64 a, .int .i64 b, .int .i64 c], .int .i64 x, .int .i64 y] w fun e w' => e = .returned (.int .i64 (valW a b c x y)) ∧ Below w.heap.size w w' := by
  go_enter Try.func117, Try.ntmps117
  go_wp2
  go_ret
  refine ⟨rfl, ?_⟩
  repeat (first | with_reducible exact Below.refl _ _ | with_reducible assumption | ((with_reducible refine blA ?_ ?_); (focus (first | omega | (simp <;> omega)))) | (with_reducible refine blD ?_) | (with_reducible refine blN ?_) | ((with_reducible refine blS ?_ ?_); (focus (first | omega | (simp <;> omega)))) | ((with_reducible refine blT (by assumption) ?_ ?_); (focus (first | omega | (simp <;> omega)))))
theorem foValue_any (a b c x y : Int) (w : World) :
    Calls Try.prog 114 #[.agg #[.int .i64 a, .int .i64 b, .int .i64 c], .int .i64 x, .int .i64 y] w fun e w' => e = .returned (.int .i64 (valW a b c x y)) ∧ Below w.heap.size w w' := by
  go_enter Try.func114, Try.ntmps114
  go_wp2
  go_ret
  refine ⟨rfl, ?_⟩
  repeat (first | with_reducible exact Below.refl _ _ | with_reducible assumption | ((with_reducible refine blA ?_ ?_); (focus (first | omega | (simp <;> omega)))) | (with_reducible refine blD ?_) | (with_reducible refine blN ?_) | ((with_reducible refine blS ?_ ?_); (focus (first | omega | (simp <;> omega)))) | ((with_reducible refine blT (by assumption) ?_ ?_); (focus (first | omega | (simp <;> omega)))))
/-- The polar form's value, as 64 bits have it. -/
def polW (a b c x y u v : Int) : Int := wrap64 (wrap64 (wrap64 (wrap64 (wrap64 (2 * a) * x) * u) + wrap64 (b * wrap64 (wrap64 (x * v) + wrap64 (y * u)))) + wrap64 (wrap64 (wrap64 (2 * c) * y) * v))
theorem polar_any (a b c x y u v : Int) (w : World) :
    Calls Try.prog 118 #[.agg #[.int .i64 a, .int .i64 b, .int .i64 c], .int .i64 x, .int .i64 y, .int .i64 u, .int .i64 v] w fun e w' => e = .returned (.int .i64 (polW a b c x y u v)) ∧ Below w.heap.size w w' := by
  go_enter Try.func118, Try.ntmps118
  go_wp2
  go_ret
  refine ⟨rfl, ?_⟩
  repeat (first | with_reducible exact Below.refl _ _ | with_reducible assumption | ((with_reducible refine blA ?_ ?_); (focus (first | omega | (simp <;> omega)))) | (with_reducible refine blD ?_) | (with_reducible refine blN ?_) | ((with_reducible refine blS ?_ ?_); (focus (first | omega | (simp <;> omega)))) | ((with_reducible refine blT (by assumption) ?_ ?_); (focus (first | omega | (simp <;> omega)))))
theorem foPolar_any (a b c x y u v : Int) (w : World) :
    Calls Try.prog 115 #[.agg #[.int .i64 a, .int .i64 b, .int .i64 c], .int .i64 x, .int .i64 y, .int .i64 u, .int .i64 v] w fun e w' => e = .returned (.int .i64 (polW a b c x y u v)) ∧ Below w.heap.size w w' := by
  go_enter Try.func115, Try.ntmps115
  go_wp2
  go_ret
  refine ⟨rfl, ?_⟩
  repeat (first | with_reducible exact Below.refl _ _ | with_reducible assumption | ((with_reducible refine blA ?_ ?_); (focus (first | omega | (simp <;> omega)))) | (with_reducible refine blD ?_) | (with_reducible refine blN ?_) | ((with_reducible refine blS ?_ ?_); (focus (first | omega | (simp <;> omega)))) | ((with_reducible refine blT (by assumption) ?_ ?_); (focus (first | omega | (simp <;> omega)))))
end Go.Proofs.Ytemnkfigjpphgaa
