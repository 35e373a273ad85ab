/-
  How great the numbers become on the way to a lattice's normal form. Plain mathematics.
-/
import Derived.Test.YtladcjoiaoaedaaHerm
namespace Go.Proofs.Ytladcjoiaoaedaa
theorem S_step {b d x y : Int} : x.natAbs * (d - d.tdiv y * y).natAbs + (b - d.tdiv y * x).natAbs * y.natAbs ≤ b.natAbs * y.natAbs + x.natAbs * d.natAbs := by
  rw [tmod_eq', Int.natAbs_tmod]
  have h1 : (b - d.tdiv y * x).natAbs ≤ b.natAbs + (d.natAbs / y.natAbs) * x.natAbs := by
    have := Int.natAbs_sub_le b (d.tdiv y * x)
    rwa [Int.natAbs_mul, Int.natAbs_tdiv] at this
  have h2 := Nat.div_add_mod d.natAbs y.natAbs
  have h3 := Nat.mul_le_mul_right y.natAbs h1
  generalize d.natAbs / y.natAbs = q at *
  generalize d.natAbs % y.natAbs = m at *
  generalize x.natAbs = X at *
  generalize y.natAbs = Y at *
  generalize b.natAbs = B at *
  generalize d.natAbs = D at *
  subst h2
  have e : B * Y + X * (Y * q + m) = X * m + (B + q * X) * Y := by
    simp only [Nat.mul_add, Nat.add_mul, Nat.mul_assoc, Nat.mul_comm, Nat.mul_left_comm]
    omega
  omega
/-- The quotient's product. -/
theorem qx_le {d x y : Int} (h : y ≠ 0) : (d.tdiv y * x).natAbs ≤ x.natAbs * d.natAbs := by
  rw [Int.natAbs_mul, Int.natAbs_tdiv, Nat.mul_comm]
  exact Nat.mul_le_mul_left _ (Nat.div_le_self ..)
theorem qy_bd {Y d y : Int} (hd : Bd Y d) : Bd Y (d.tdiv y * y) ∧ Bd Y (d - d.tdiv y * y) := by
  rw [bd_iff] at hd ⊢
  rw [bd_iff, tmod_eq', Int.natAbs_tmod, Int.natAbs_mul, Int.natAbs_tdiv]
  have h1 : d.natAbs.div y.natAbs * y.natAbs ≤ d.natAbs := Nat.div_mul_le_self d.natAbs y.natAbs
  have h2 := Nat.mod_le d.natAbs y.natAbs
  omega
/-- What holds at each round of an inner loop. -/
structure HInv (a Y S M b d x y : Int) : Prop where
  hd : Bd Y d
  hy : Bd Y y
  hb : Bd M b
  hx : Bd M x
  hs : a = 0 → ((b.natAbs * y.natAbs + x.natAbs * d.natAbs : Nat) : Int) ≤ S
/-- What the bounds owe each other. -/
structure HSide (a Y S M : Int) : Prop where
  a0 : 0 ≤ a
  aM : a ≤ M
  Y0 : 0 ≤ Y
  S0 : 0 ≤ S
  SM : a = 0 → 2 * S ≤ M
  M4 : M ≤ 4000000000000000000
  Y4 : Y ≤ 4000000000000000000
  big : a ≠ 0 → Y * M + M ≤ 4000000000000000000
def K4 (n : Int) : Prop := -4000000000000000000 ≤ n ∧ n ≤ 4000000000000000000
theorem h_facts {a Y S M b d x y : Int} (hS : HSide a Y S M) (h : HInv a Y S M b d x y) (hy : y ≠ 0) :
    K4 (d.tdiv y) ∧ K4 (d.tdiv y * x) ∧ K4 (b - d.tdiv y * x) ∧ K4 (d.tdiv y * y) ∧ K4 (d - d.tdiv y * y) ∧ HInv a Y S M x y (red a (b - d.tdiv y * x)) (d - d.tdiv y * y) := by
  obtain ⟨q1, q2⟩ := qy_bd (y := y) h.hd
  have Y4 := hS.Y4
  have M4 := hS.M4
  have hq : Bd Y (d.tdiv y) := tdiv_bd y h.hd
  have hst := S_step (b := b) (d := d) (x := x) (y := y)
  by_cases ha : a = 0
  · have hs := h.hs ha
    have e1 := qx_le (x := x) (d := d) hy
    have e2 : b.natAbs ≤ b.natAbs * y.natAbs := Nat.le_mul_of_pos_right _ (by omega)
    have hSM := hS.SM ha
    have r : red a (b - d.tdiv y * x) = b - d.tdiv y * x := by unfold red; rw [if_pos ha]
    have e3 : Bd M (b - d.tdiv y * x) := by
      generalize b.natAbs * y.natAbs = p at *
      generalize x.natAbs * d.natAbs = r at *
      generalize d.tdiv y * x = z at *
      exact ⟨by omega, by omega⟩
    refine ⟨⟨by have := hq.1; omega, by have := hq.2; omega⟩, ?_, ?_, ⟨by have := q1.1; omega, by have := q1.2; omega⟩, ⟨by have := q2.1; omega, by have := q2.2; omega⟩, ⟨h.hy, q2, h.hx, by rw [r]; exact e3, fun _ => ?_⟩⟩
    · generalize b.natAbs * y.natAbs = p at *
      generalize x.natAbs * d.natAbs = r at *
      generalize d.tdiv y * x = z at *
      exact ⟨by omega, by omega⟩
    · exact ⟨by have := e3.1; omega, by have := e3.2; omega⟩
    · rw [r]
      refine Int.le_trans ?_ hs
      exact_mod_cast hst
  · have big := hS.big ha
    have e1 : Bd (Y * M) (d.tdiv y * x) := mul_bd hq h.hx (Int.le_refl _)
    have e2 := h.hb
    have aM := hS.aM
    have a0 := hS.a0
    have r : red a (b - d.tdiv y * x) = (b - d.tdiv y * x) % a := by unfold red; rw [if_neg ha]
    have r1 := Int.emod_nonneg (b - d.tdiv y * x) ha
    have r2 := Int.emod_lt_of_pos (b - d.tdiv y * x) (show 0 < a by omega)
    have M0 : 0 ≤ M := by omega
    obtain ⟨e3, e4⟩ := e1
    obtain ⟨e5, e6⟩ := e2
    refine ⟨⟨by have := hq.1; omega, by have := hq.2; omega⟩, ⟨by omega, by omega⟩, ⟨by omega, by omega⟩, ⟨by have := q1.1; omega, by have := q1.2; omega⟩, ⟨by have := q2.1; omega, by have := q2.2; omega⟩, ⟨h.hy, q2, h.hx, by rw [r]; exact ⟨by omega, by omega⟩, fun h0 => absurd h0 ha⟩⟩
/-- The bounds at the end of the inner loop. -/
theorem eucI_inv {a Y S M : Int} (hS : HSide a Y S M) : ∀ (f : Nat) (b d x y : Int), HInv a Y S M b d x y → y.natAbs ≤ f → HInv a Y S M (eucI a f b d x y).1 (eucI a f b d x y).2.1 (eucI a f b d x y).2.2 0 := by
  intro f
  induction f with
  | zero =>
    intro b d x y h hf
    obtain rfl : y = 0 := by omega
    exact h
  | succ f ih =>
    intro b d x y h hf
    simp only [eucI]
    split
    · rename_i h0; subst h0; exact h
    · rename_i h0
      have := rem_lt d h0
      exact ih _ _ _ _ (h_facts hS h h0).2.2.2.2.2 (by omega)
theorem eucS_eq : ∀ (f : Nat) (b d x y : Int), eucS f b d x y = eucI 0 f b d x y := by
  intro f
  induction f with
  | zero => intro b d x y; rfl
  | succ f ih =>
    intro b d x y
    simp only [eucI, eucS]
    split
    · rfl
    · rw [ih]; simp [red]
/-- If something is left of d or y, d is not 0 at the end. -/
theorem eucI_ne (a : Int) : ∀ (f : Nat) (b d x y : Int), y.natAbs ≤ f → (d ≠ 0 ∨ y ≠ 0) → (eucI a f b d x y).2.1 ≠ 0 := by
  intro f
  induction f with
  | zero => intro b d x y h1 h2; simp only [eucI]; omega
  | succ f ih =>
    intro b d x y h1 h2
    simp only [eucI]
    split
    · simp only; omega
    · rename_i h0
      have := rem_lt d h0
      exact ih _ _ _ _ (by omega) (Or.inl h0)
/-- d does not become greater than y. -/
theorem eucI_le (a : Int) : ∀ (f : Nat) (b d x y : Int), y.natAbs ≤ f → (eucI a f b d x y).2.1.natAbs ≤ if y = 0 then d.natAbs else y.natAbs := by
  intro f
  induction f with
  | zero => intro b d x y h1; obtain rfl : y = 0 := by omega
            simp [eucI]
  | succ f ih =>
    intro b d x y h1
    simp only [eucI]
    split
    · simp
    · rename_i h0
      have hlt := rem_lt d h0
      have := ih x y (red a (b - d.tdiv y * x)) (d - d.tdiv y * y) (by omega)
      split at this <;> omega
/-- If nothing is left of x, all was a multiple of what is left. -/
theorem euc_line : ∀ (f : Nat) (b d x y : Int), y.natAbs ≤ f → (eucI 0 f b d x y).2.2 = 0 → ∃ m n : Int, b = m * (eucI 0 f b d x y).1 ∧ d = m * (eucI 0 f b d x y).2.1 ∧ x = n * (eucI 0 f b d x y).1 ∧ y = n * (eucI 0 f b d x y).2.1 := by
  intro f
  induction f with
  | zero =>
    intro b d x y h1 h2
    obtain rfl : y = 0 := by omega
    obtain rfl : x = 0 := h2
    exact ⟨1, 0, (Int.one_mul _).symm, (Int.one_mul _).symm, (Int.zero_mul _).symm, (Int.zero_mul _).symm⟩
  | succ f ih =>
    intro b d x y h1 h2
    simp only [eucI] at h2 ⊢
    by_cases h0 : y = 0
    · rw [if_pos h0] at h2 ⊢
      subst h0
      obtain rfl : x = 0 := h2
      exact ⟨1, 0, (Int.one_mul _).symm, (Int.one_mul _).symm, (Int.zero_mul _).symm, (Int.zero_mul _).symm⟩
    · rw [if_neg h0] at h2 ⊢
      have hlt := rem_lt d h0
      have hr : red 0 (b - d.tdiv y * x) = b - d.tdiv y * x := by simp [red]
      rw [hr] at h2 ⊢
      obtain ⟨m, n, e1, e2, e3, e4⟩ := ih _ _ _ _ (by omega) h2
      refine ⟨n + d.tdiv y * m, m, ?_, ?_, e1, e2⟩
      · rw [Int.add_mul, Int.mul_assoc, ← e1, ← e3]; omega
      · rw [Int.add_mul, Int.mul_assoc, ← e2, ← e4]; omega
/-- What holds between two vectors. -/
structure OInv (X Y A a b d : Int) : Prop where
  hd : Bd Y d
  a0 : 0 ≤ a
  aA : a ≤ A
  red1 : a ≠ 0 → 0 ≤ b ∧ b < a
  line : a = 0 → Bd X b ∧ (d = 0 → b = 0)
structure OSide (X Y A S M : Int) : Prop where
  X0 : 0 ≤ X
  Y1 : 0 ≤ Y
  XA : X ≤ A
  XYA : 2 * (X * Y) ≤ A
  AS : A * Y + X * Y ≤ S
  SM : 2 * S ≤ M
  AM : A ≤ M
  XYM : 4 * (X * Y) ≤ M
  Y4 : Y ≤ 4000000000000000000
  M4 : M ≤ 4000000000000000000
  big : Y * M + M ≤ 4000000000000000000
theorem natMul_le {p q : Int} {P Q : Int} (hp : Bd P p) (hq : Bd Q q) (hP : 0 ≤ P) : ((p.natAbs * q.natAbs : Nat) : Int) ≤ P * Q := by
  rw [bd_iff] at hp hq
  rw [Int.natCast_mul]
  exact Int.mul_le_mul hp hq (by omega) hP
theorem o_next {X Y A S M : Int} (hO : OSide X Y A S M) {a m b d x y : Int} (hm : m = a ∨ m = 0) (h : OInv X Y A a b d) (hx : Bd X x) (hy : Bd Y y) :
    HSide m Y S M ∧ HInv m Y S M b d x y ∧ HInv m Y S M (eucI m y.natAbs b d x y).1 (eucI m y.natAbs b d x y).2.1 (eucI m y.natAbs b d x y).2.2 0 ∧
      OInv X Y A (Int.gcd a (eucI m y.natAbs b d x y).2.2 : Int) (red (Int.gcd a (eucI m y.natAbs b d x y).2.2 : Int) (eucI m y.natAbs b d x y).1) (eucI m y.natAbs b d x y).2.1 := by
  have m0 : 0 ≤ m := by rcases hm with rfl | rfl; exact h.a0; exact Int.le_refl _
  have mA : m ≤ A := by
    rcases hm with rfl | rfl
    · exact h.aA
    · exact Int.le_trans h.a0 h.aA
  have AM := hO.AM
  have XA := hO.XA
  have X0 := hO.X0
  have Y1 := hO.Y1
  have hbA : Bd A b := by
    by_cases ha : a = 0
    · exact (h.line ha).1.mono XA
    · obtain ⟨p, q⟩ := h.red1 ha
      have := h.aA
      exact ⟨by omega, by omega⟩
  have A0 : 0 ≤ A := by omega
  have AY : 0 ≤ A * Y := Int.mul_nonneg A0 Y1
  have XY : 0 ≤ X * Y := Int.mul_nonneg X0 Y1
  have hS0 := hO.AS
  have hSM := hO.SM
  have M4 := hO.M4
  have big := hO.big
  have YM := hO.Y4
  have side : HSide m Y S M := ⟨m0, by omega, Y1, by omega, fun _ => hSM, M4, by omega, fun _ => big⟩
  have inv : HInv m Y S M b d x y := by
    refine ⟨h.hd, hy, hbA.mono AM, hx.mono (by omega), fun _ => ?_⟩
    have e1 := natMul_le hbA hy A0
    have e2 := natMul_le hx h.hd X0
    push_cast at e1 e2 ⊢
    omega
  have fin := eucI_inv side y.natAbs b d x y inv (Nat.le_refl _)
  refine ⟨side, inv, fin, fin.hd, by omega, ?_, ?_, ?_⟩
  · -- a' ≤ A
    by_cases ha : a = 0
    · have hm0 : m = 0 := by rcases hm with rfl | rfl; exact ha; rfl
      subst hm0
      subst ha
      rw [Int.gcd_zero_left]
      by_cases hd0 : (eucI 0 y.natAbs b d x y).2.1 = 0
      · have hy0 : y = 0 := by
          refine Decidable.byContradiction fun hne => ?_
          exact eucI_ne 0 y.natAbs b d x y (Nat.le_refl _) (Or.inr hne) hd0
        subst hy0
        show ((x.natAbs : Nat) : Int) ≤ A
        have := hx.1; have := hx.2; omega
      · have inv0 : HInv 0 Y (2 * (X * Y)) M b d x y := by
          refine ⟨h.hd, hy, hbA.mono AM, hx.mono (by omega), fun _ => ?_⟩
          have e1 := natMul_le (h.line rfl).1 hy X0
          have e2 := natMul_le hx h.hd X0
          push_cast at e1 e2 ⊢
          omega
        have side0 : HSide 0 Y (2 * (X * Y)) M := ⟨Int.le_refl _, by omega, Y1, by omega, fun _ => by have := hO.XYM; omega, M4, by omega, fun h => absurd rfl h⟩
        have f0 := (eucI_inv side0 y.natAbs b d x y inv0 (Nat.le_refl _)).hs rfl
        simp only [Int.natAbs_zero, Nat.mul_zero, Nat.zero_add] at f0
        have := Nat.le_mul_of_pos_right (eucI 0 y.natAbs b d x y).2.2.natAbs (show 0 < (eucI 0 y.natAbs b d x y).2.1.natAbs by omega)
        have := hO.XYA
        omega
    · have := Int.gcd_le_natAbs_left (eucI m y.natAbs b d x y).2.2 ha
      have := h.aA
      have := h.a0
      omega
  · intro h0
    unfold red
    rw [if_neg h0]
    exact ⟨Int.emod_nonneg _ h0, Int.emod_lt_of_pos _ (by omega)⟩
  · intro h0
    have h0' : Int.gcd a (eucI m y.natAbs b d x y).2.2 = 0 := by omega
    obtain ⟨ha, hx0⟩ := Int.gcd_eq_zero_iff.1 h0'
    have hm0 : m = 0 := by rcases hm with rfl | rfl; exact ha; rfl
    subst hm0
    subst ha
    unfold red
    rw [if_pos h0]
    by_cases hy0 : y = 0
    · subst hy0
      exact h.line rfl
    · obtain ⟨p, q, e1, e2, e3, e4⟩ := euc_line y.natAbs b d x y (Nat.le_refl _) hx0
      have hq : q ≠ 0 := fun hq => hy0 (by rw [e4, hq, Int.zero_mul])
      refine ⟨?_, fun hd => absurd hd (eucI_ne 0 y.natAbs b d x y (Nat.le_refl _) (Or.inr hy0))⟩
      rw [bd_iff] at hx ⊢
      have : x.natAbs = q.natAbs * (eucI 0 y.natAbs b d x y).1.natAbs := by rw [← Int.natAbs_mul, ← e3]
      have := Nat.le_mul_of_pos_left (eucI 0 y.natAbs b d x y).1.natAbs (show 0 < q.natAbs by omega)
      omega
end Go.Proofs.Ytladcjoiaoaedaa
