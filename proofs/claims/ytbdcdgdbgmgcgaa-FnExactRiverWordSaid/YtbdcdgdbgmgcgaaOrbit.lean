/-
  The river comes back: the step is injective on a finite set. Plain mathematics.
-/
import Derived.Test.YtbdcdgdbgmgcgaaRiver
namespace Go.Proofs.Ytbdcdgdbgmgcgaa
theorem pigeon : ∀ (N : Nat) (f : Nat → Nat), (∀ i, i ≤ N → f i < N) → ∃ i j, i < j ∧ j ≤ N ∧ f i = f j := by
  intro N
  induction N with
  | zero => intro f h; exact absurd (h 0 (Nat.le_refl _)) (by omega)
  | succ N ih =>
    intro f h
    by_cases hv : ∃ i, i ≤ N ∧ f i = f (N + 1)
    · obtain ⟨i, hi, he⟩ := hv
      exact ⟨i, N + 1, by omega, by omega, he⟩
    · have hne : ∀ i, i ≤ N → f i ≠ f (N + 1) := fun i hi he => hv ⟨i, hi, he⟩
      obtain ⟨i, j, hij, hj, he⟩ := ih (fun i => if f i = N then f (N + 1) else f i) (fun i hi => by
        have h1 := h i (by omega)
        have h2 := hne i hi
        have h3 := h (N + 1) (by omega)
        show (if f i = N then f (N + 1) else f i) < N
        split <;> omega)
      refine ⟨i, j, hij, by omega, ?_⟩
      have h2 := hne i (by omega)
      have h3 := hne j hj
      have he' : (if f i = N then f (N + 1) else f i) = (if f j = N then f (N + 1) else f j) := he
      split at he' <;> split at he' <;> omega
/-- An edge of the river, by its discriminant. -/
structure Edge (D a b c : Int) : Prop where
  pos : 0 < a
  neg : c < 0
  disc : b * b - 4 * a * c = D
theorem Edge.sum_ne {D a b c : Int} (h : Edge D a b c) (hs : ∀ r : Int, r * r ≠ D) : a + b + c ≠ 0 := by
  intro h0
  refine hs (a - c) ?_
  obtain rfl : b = -(a + c) := by omega
  rw [← h.disc]
  simp only [Int.mul_sub, Int.sub_mul, Int.mul_add, Int.add_mul, Int.neg_mul, Int.mul_neg, Int.mul_assoc, Int.mul_comm c a]
  omega
theorem Edge.next {D a b c : Int} (h : Edge D a b c) (hs : ∀ r : Int, r * r ≠ D) : Edge D (fA a b c) (fB a b c) (fC a b c) := by
  have h0 := h.sum_ne hs
  have hd := h.disc
  have h1 := h.pos
  have h2 := h.neg
  by_cases c0 : 0 < a + b + c
  · refine ⟨by rw [fA, if_pos c0]; exact c0, by rw [fC, if_pos c0]; exact h2, ?_⟩
    rw [fA, fB, fC, if_pos c0, if_pos c0, if_pos c0, ← hd]
    simp only [Int.mul_sub, Int.sub_mul, Int.mul_add, Int.add_mul, Int.mul_assoc, Int.mul_comm c b, Int.mul_left_comm c 2, Int.mul_left_comm b 2]
    omega
  · refine ⟨by rw [fA, if_neg c0]; exact h1, by rw [fC, if_neg c0]; omega, ?_⟩
    rw [fA, fB, fC, if_neg c0, if_neg c0, if_neg c0, ← hd]
    simp only [Int.mul_sub, Int.sub_mul, Int.mul_add, Int.add_mul, Int.mul_assoc, Int.mul_comm b a, Int.mul_left_comm a 2, Int.mul_left_comm b 2]
    omega
theorem step_inj {D a b c a' b' c' : Int} (h : Edge D a b c) (h' : Edge D a' b' c') (e1 : fA a b c = fA a' b' c') (e2 : fB a b c = fB a' b' c') (e3 : fC a b c = fC a' b' c') : a = a' ∧ b = b' ∧ c = c' := by
  have h1 := h.pos
  have h2 := h.neg
  have h3 := h'.pos
  have h4 := h'.neg
  unfold fA at e1
  unfold fB at e2
  unfold fC at e3
  by_cases c0 : 0 < a + b + c
  · rw [if_pos c0] at e1 e2 e3
    by_cases c1 : 0 < a' + b' + c'
    · rw [if_pos c1] at e1 e2 e3; omega
    · rw [if_neg c1] at e1 e2 e3; omega
  · rw [if_neg c0] at e1 e2 e3
    by_cases c1 : 0 < a' + b' + c'
    · rw [if_pos c1] at e1 e2 e3; omega
    · rw [if_neg c1] at e1 e2 e3; omega
theorem Edge.bd {D a b c : Int} (h : Edge D a b c) (hD : D ≤ 2000) : a ≤ 500 ∧ -44 ≤ b ∧ b ≤ 44 ∧ -500 ≤ c := by
  have h1 := h.pos
  have h2 := h.neg
  have hd := h.disc
  have m1 : a * 1 ≤ a * -c := Int.mul_le_mul_of_nonneg_left (by omega) (by omega)
  have m2 : 1 * -c ≤ a * -c := Int.mul_le_mul_of_nonneg_right (by omega) (by omega)
  have m3 : 0 ≤ b * b := by rcases Int.le_total 0 b with h | h; exact Int.mul_nonneg h h; exact Int.mul_nonneg_of_nonpos_of_nonpos h h
  have e : 4 * a * c = -(4 * (a * -c)) := by rw [Int.mul_neg, Int.mul_neg, Int.neg_neg, Int.mul_assoc]
  rw [e] at hd
  generalize a * -c = m at *
  have hb : b * b ≤ 2000 := by omega
  refine ⟨by omega, ?_, ?_, by omega⟩
  · refine Int.le_of_not_gt fun hlt => ?_
    have := Int.mul_le_mul (show (45 : Int) ≤ -b by omega) (show (45 : Int) ≤ -b by omega) (by omega) (by omega)
    rw [Int.neg_mul_neg] at this
    omega
  · refine Int.le_of_not_gt fun hlt => ?_
    have := Int.mul_le_mul (show (45 : Int) ≤ b by omega) (show (45 : Int) ≤ b by omega) (by omega) (by omega)
    omega
/-- The k-th edge. -/
def rit : Nat → Int → Int → Int → Int × Int × Int
  | 0, a, b, c => (a, b, c)
  | k + 1, a, b, c => (fA (rit k a b c).1 (rit k a b c).2.1 (rit k a b c).2.2, fB (rit k a b c).1 (rit k a b c).2.1 (rit k a b c).2.2, fC (rit k a b c).1 (rit k a b c).2.1 (rit k a b c).2.2)
theorem rit_edge {D a b c : Int} (h : Edge D a b c) (hs : ∀ r : Int, r * r ≠ D) (k : Nat) : Edge D (rit k a b c).1 (rit k a b c).2.1 (rit k a b c).2.2 := by
  induction k with
  | zero => exact h
  | succ k ih => exact ih.next hs
theorem rit_back {D a b c : Int} (h : Edge D a b c) (hs : ∀ r : Int, r * r ≠ D) (i d : Nat) : rit (i + d) a b c = rit i a b c → rit d a b c = (a, b, c) := by
  induction i with
  | zero => intro e; simpa [rit] using e
  | succ i ih =>
    intro e
    refine ih ?_
    rw [show i + 1 + d = (i + d) + 1 by omega] at e
    simp only [rit, Prod.mk.injEq] at e
    obtain ⟨e1, e2, e3⟩ := step_inj (rit_edge h hs (i + d)) (rit_edge h hs i) e.1 e.2.1 e.2.2
    exact Prod.ext e1 (Prod.ext e2 e3)
def rcode (s : Int × Int × Int) : Nat := (s.1 * 89 + (s.2.1 + 44)).toNat
theorem rit_period {D a b c : Int} (h : Edge D a b c) (hs : ∀ r : Int, r * r ≠ D) (hD : D ≤ 2000) : ∃ n, 1 ≤ n ∧ n ≤ 50000 ∧ rit n a b c = (a, b, c) := by
  obtain ⟨i, j, hij, hj, he⟩ := pigeon 50000 (fun k => rcode (rit k a b c)) (fun k _ => by
    obtain ⟨b1, b2, b3, b4⟩ := (rit_edge h hs k).bd hD
    have := (rit_edge h hs k).pos
    show rcode _ < _
    unfold rcode
    omega)
  refine ⟨j - i, by omega, by omega, rit_back h hs i (j - i) ?_⟩
  rw [show i + (j - i) = j by omega]
  have ei := rit_edge h hs i
  have ej := rit_edge h hs j
  obtain ⟨b1, b2, b3, b4⟩ := ei.bd hD
  obtain ⟨c1, c2, c3, c4⟩ := ej.bd hD
  have p1 := ei.pos
  have p2 := ej.pos
  have he' : rcode (rit i a b c) = rcode (rit j a b c) := he
  unfold rcode at he'
  have d1 := ei.disc
  have d2 := ej.disc
  generalize rit i a b c = x at *
  generalize rit j a b c = y at *
  obtain ⟨x1, x2, x3⟩ := x
  obtain ⟨y1, y2, y3⟩ := y
  simp only at *
  have a1 : x1 = y1 := by omega
  have a2 : x2 = y2 := by omega
  subst a1 a2
  have : 4 * x1 * x3 = 4 * x1 * y3 := by omega
  have := Int.eq_of_mul_eq_mul_left (by omega) this
  rw [this]
/-- The first k from k0 on at which p holds. -/
def first (p : Nat → Bool) : Nat → Nat → Nat
  | 0, k => k
  | f + 1, k => if p k then k else first p f (k + 1)
theorem first_eq {p : Nat → Bool} {n : Nat} : ∀ (f k : Nat), k ≤ n → n ≤ k + f → p n = true → (∀ j, k ≤ j → j < n → p j = false) → first p f k = n := by
  intro f
  induction f with
  | zero => intro k h1 h2 _ _; rw [first]; omega
  | succ f ih =>
    intro k h1 h2 hp hn
    rw [first]
    by_cases e : k = n
    · subst e; rw [if_pos hp]
    · rw [if_neg (by rw [hn k (by omega) (by omega)]; decide)]
      exact ih (k + 1) (by omega) (by omega) hp (fun j a b => hn j (by omega) b)
/-- The letters of the first k steps. -/
def rword (k : Nat) (a b c : Int) : List UInt8 := (List.range k).map fun i => if 0 < (rit i a b c).1 + (rit i a b c).2.1 + (rit i a b c).2.2 then 112 else 110
theorem rword_succ (k : Nat) (a b c : Int) : rword (k + 1) a b c = rword k a b c ++ [if 0 < (rit k a b c).1 + (rit k a b c).2.1 + (rit k a b c).2.2 then 112 else 110] := by
  unfold rword; rw [List.range_succ, List.map_append]; rfl
theorem rword_length (k : Nat) (a b c : Int) : (rword k a b c).length = k := by simp [rword]
/-- How many steps it takes to come back. -/
def rper (a b c : Int) : Nat := first (fun k => rit k a b c == (a, b, c)) 50000 1
theorem rper_eq {a b c : Int} {k : Nat} (h1 : 1 ≤ k) (h2 : k ≤ 50000) (hk : rit k a b c = (a, b, c)) (hn : ∀ j, 1 ≤ j → j < k → rit j a b c ≠ (a, b, c)) : rper a b c = k :=
  first_eq 50000 1 h1 (by omega) (by rw [hk]; exact beq_self_eq_true _) (fun j a b => beq_eq_false_iff_ne.2 (hn j a b))
end Go.Proofs.Ytbdcdgdbgmgcgaa
