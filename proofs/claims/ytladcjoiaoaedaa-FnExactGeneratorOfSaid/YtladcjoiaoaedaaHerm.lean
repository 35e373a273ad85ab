/-
  Normal forms of plane lattices: the two ways of the program and of the reference to find them agree. Plain mathematics.
-/
import Derived.Test.YtladcjoiaoaedaaBase
namespace Go.Proofs.Ytladcjoiaoaedaa
theorem tmod_eq' (d y : Int) : d - d.tdiv y * y = d.tmod y := by rw [Int.tmod_def, Int.mul_comm]
theorem rem_lt (d : Int) {y : Int} (h : y ≠ 0) : (d - d.tdiv y * y).natAbs < y.natAbs := by
  rw [tmod_eq', Int.natAbs_tmod]
  exact Nat.mod_lt _ (by omega)
/-- Reduction modulo a, if a is not 0. -/
def red (a z : Int) : Int := if a = 0 then z else z % a
theorem red_dvd (a z : Int) : a ∣ z - red a z := by
  unfold red
  split
  · rw [Int.sub_self]; exact Int.dvd_zero a
  · exact Int.dvd_self_sub_emod
/-- The program's inner loop. -/
def eucI (a : Int) : Nat → Int → Int → Int → Int → Int × Int × Int
  | 0, b, d, x, _ => (b, d, x)
  | f + 1, b, d, x, y => if y = 0 then (b, d, x) else eucI a f x y (red a (b - d.tdiv y * x)) (d - d.tdiv y * y)
/-- The reference's inner loop. -/
def eucS : Nat → Int → Int → Int → Int → Int × Int × Int
  | 0, b, d, x, _ => (b, d, x)
  | f + 1, b, d, x, y => if y = 0 then (b, d, x) else eucS f x y (b - d.tdiv y * x) (d - d.tdiv y * y)
theorem eucI_fuel (a : Int) : ∀ (f g : Nat) (b d x y : Int), y.natAbs ≤ f → y.natAbs ≤ g → eucI a f b d x y = eucI a g b d x y := by
  intro f
  induction f with
  | zero =>
    intro g b d x y h1 _
    have : y = 0 := by omega
    subst this
    cases g <;> simp [eucI]
  | succ f ih =>
    intro g b d x y h1 h2
    cases g with
    | zero =>
      have : y = 0 := by omega
      subst this
      simp [eucI]
    | succ g =>
      simp only [eucI]
      split
      · rfl
      · rename_i h
        have := rem_lt d h
        exact ih g _ _ _ _ (by omega) (by omega)
theorem eucS_fuel : ∀ (f g : Nat) (b d x y : Int), y.natAbs ≤ f → y.natAbs ≤ g → eucS f b d x y = eucS g b d x y := by
  intro f
  induction f with
  | zero =>
    intro g b d x y h1 _
    have : y = 0 := by omega
    subst this
    cases g <;> simp [eucS]
  | succ f ih =>
    intro g b d x y h1 h2
    cases g with
    | zero =>
      have : y = 0 := by omega
      subst this
      simp [eucS]
    | succ g =>
      simp only [eucS]
      split
      · rfl
      · rename_i h
        have := rem_lt d h
        exact ih g _ _ _ _ (by omega) (by omega)
theorem eucI_step (a b d x : Int) {y : Int} (h : y ≠ 0) : eucI a y.natAbs b d x y = eucI a (d - d.tdiv y * y).natAbs x y (red a (b - d.tdiv y * x)) (d - d.tdiv y * y) := by
  obtain ⟨f, hf⟩ : ∃ f, y.natAbs = f + 1 := ⟨y.natAbs - 1, by omega⟩
  rw [hf]
  simp only [eucI]
  rw [if_neg h]
  have := rem_lt d h
  exact eucI_fuel a _ _ _ _ _ _ (by omega) (Nat.le_refl _)
theorem eucS_step (b d x : Int) {y : Int} (h : y ≠ 0) : eucS y.natAbs b d x y = eucS (d - d.tdiv y * y).natAbs x y (b - d.tdiv y * x) (d - d.tdiv y * y) := by
  obtain ⟨f, hf⟩ : ∃ f, y.natAbs = f + 1 := ⟨y.natAbs - 1, by omega⟩
  rw [hf]
  simp only [eucS]
  rw [if_neg h]
  have := rem_lt d h
  exact eucS_fuel _ _ _ _ _ _ (by omega) (Nat.le_refl _)
def Sg (s : Int) : Prop := s = 1 ∨ s = -1
theorem euc_sim : ∀ (f : Nat) (a b d x y X Y u v s t : Int), Sg s → Sg t → Y = s * d → a ∣ X - s * b → v = t * y → a ∣ u - t * x → y.natAbs ≤ f →
    ∃ s' t', Sg s' ∧ Sg t' ∧ (eucS f X Y u v).2.1 = s' * (eucI a f b d x y).2.1 ∧ a ∣ (eucS f X Y u v).1 - s' * (eucI a f b d x y).1 ∧ a ∣ (eucS f X Y u v).2.2 - t' * (eucI a f b d x y).2.2 := by
  intro f
  induction f with
  | zero => intro a b d x y X Y u v s t hs ht hY hX hv hu _; exact ⟨s, t, hs, ht, hY, hX, hu⟩
  | succ f ih =>
    intro a b d x y X Y u v s t hs ht hY hX hv hu hf
    by_cases hy : y = 0
    · subst hy
      have : v = 0 := by rw [hv, Int.mul_zero]
      subst this
      simp only [eucS, eucI, if_true]
      exact ⟨s, t, hs, ht, hY, hX, hu⟩
    · have hv0 : v ≠ 0 := by rcases ht with rfl | rfl <;> omega
      simp only [eucS, eucI, if_neg hy, if_neg hv0]
      have hlt := rem_lt d hy
      have hk : Y.tdiv v = s * t * d.tdiv y := by
        rw [hY, hv]
        rcases hs with rfl | rfl <;> rcases ht with rfl | rfl <;> simp [Int.neg_tdiv, Int.tdiv_neg]
      have hr := red_dvd a (b - d.tdiv y * x)
      rw [hk]
      generalize d.tdiv y = q at *
      refine ih a x y (red a (b - q * x)) (d - q * y) u v (X - s * t * q * u) (Y - s * t * q * v) t s ht hs hv hu ?_ ?_ (by omega)
      · rw [hY, hv]
        rcases hs with rfl | rfl <;> rcases ht with rfl | rfl <;> grind
      · obtain ⟨m, hm⟩ := hX
        obtain ⟨n, hn⟩ := hu
        obtain ⟨p, hp⟩ := hr
        refine ⟨m - s * t * q * n + s * p, ?_⟩
        rcases hs with rfl | rfl <;> rcases ht with rfl | rfl <;> grind
theorem gcd_sim {a u v t : Int} (ht : Sg t) (h : a ∣ u - t * v) : Int.gcd a u = Int.gcd a v := by
  obtain ⟨m, hm⟩ := h
  have e : u = t * v + a * m := by omega
  rw [e]
  have : Int.gcd a (t * v + a * m) = Int.gcd a (t * v) := by
    simp
  rw [this]
  rcases ht with rfl | rfl
  · rw [Int.one_mul]
  · rw [Int.neg_one_mul, Int.gcd_neg]
/-- What one vector does: the program. -/
def hStep (s : Int × Int × Int) (v : Int × Int) : Int × Int × Int :=
  ((Int.gcd s.1 (eucI s.1 v.2.natAbs s.2.1 s.2.2 v.1 v.2).2.2 : Int), red (Int.gcd s.1 (eucI s.1 v.2.natAbs s.2.1 s.2.2 v.1 v.2).2.2 : Int) (eucI s.1 v.2.natAbs s.2.1 s.2.2 v.1 v.2).1, (eucI s.1 v.2.natAbs s.2.1 s.2.2 v.1 v.2).2.1)
/-- What one vector does: the reference's lattices. -/
def lStep (s : Int × Int × Int) (v : Int × Int) : Int × Int × Int :=
  let r := eucS v.2.natAbs s.2.1 s.2.2 v.1 v.2
  ((Int.gcd s.1 r.2.2 : Int), red (Int.gcd s.1 r.2.2 : Int) (if r.2.1 < 0 then -r.1 else r.1), if r.2.1 < 0 then -r.2.1 else r.2.1)
/-- What one element does: the reference's ideals. -/
def iStep (s : Int × Int × Int) (v : Int × Int) : Int × Int × Int :=
  let r := eucS v.2.natAbs s.2.1 s.2.2 v.1 v.2
  ((Int.gcd s.1 r.2.2 : Int), r.1, r.2.1)
/-- The two agree, up to a sign and multiples of a. -/
def Sim (p q : Int × Int × Int) : Prop := p.1 = q.1 ∧ ∃ s, Sg s ∧ q.2.2 = s * p.2.2 ∧ p.1 ∣ q.2.1 - s * p.2.1
theorem Sg.mul {s t : Int} (hs : Sg s) (ht : Sg t) : Sg (s * t) := by
  rcases hs with rfl | rfl <;> rcases ht with rfl | rfl <;> simp [Sg]
theorem sg1 : Sg 1 := Or.inl rfl
theorem dvd_red {a b z : Int} {w : Int} (h : a ∣ z - w) (hb : b ∣ a) : b ∣ red b z - w := by
  have h1 := red_dvd b z
  have h2 : b ∣ z - w := Int.dvd_trans hb h
  have := Int.dvd_sub h2 h1
  have e : z - w - (z - red b z) = red b z - w := by omega
  rwa [e] at this
theorem dvd_red' {b z w s : Int} (h : b ∣ z - s * w) : b ∣ z - s * red b w := by
  have h1 := red_dvd b w
  obtain ⟨m, hm⟩ := h1
  obtain ⟨n, hn⟩ := h
  exact ⟨n + s * m, by grind⟩
theorem Sim.i {p q : Int × Int × Int} (h : Sim p q) (v : Int × Int) : Sim (hStep p v) (iStep q v) := by
  obtain ⟨h1, s, hs, hd, hx⟩ := h
  obtain ⟨s', t', hs', ht', e1, e2, e3⟩ := euc_sim v.2.natAbs p.1 p.2.1 p.2.2 v.1 v.2 q.2.1 q.2.2 v.1 v.2 s 1 hs sg1 hd hx (by omega) (by rw [Int.one_mul, Int.sub_self]; exact Int.dvd_zero _) (Nat.le_refl _)
  have hg : (Int.gcd p.1 (eucI p.1 v.2.natAbs p.2.1 p.2.2 v.1 v.2).2.2 : Int) = (Int.gcd q.1 (eucS v.2.natAbs q.2.1 q.2.2 v.1 v.2).2.2 : Int) := by
    rw [← h1, gcd_sim ht' e3]
  refine ⟨hg, s', hs', e1, ?_⟩
  show (Int.gcd p.1 (eucI p.1 v.2.natAbs p.2.1 p.2.2 v.1 v.2).2.2 : Int) ∣ _
  exact dvd_red' (Int.dvd_trans (Int.gcd_dvd_left ..) e2)
theorem Sim.l {p q : Int × Int × Int} (h : Sim p q) (v : Int × Int) : Sim (hStep p v) (lStep q v) := by
  obtain ⟨h1, s', hs', e1, e2⟩ := h.i v
  by_cases hn : (eucS v.2.natAbs q.2.1 q.2.2 v.1 v.2).2.1 < 0
  · refine ⟨h1, -s', by rcases hs' with rfl | rfl <;> simp [Sg], ?_, ?_⟩
    · show (if _ < 0 then _ else _) = _
      rw [if_pos hn]
      show -(iStep q v).2.2 = _
      rw [e1, Int.neg_mul]
    · show _ ∣ red _ (if _ < 0 then _ else _) - _
      rw [if_pos hn]
      have e4 : (hStep p v).1 ∣ -(iStep q v).2.1 - -s' * (hStep p v).2.1 := by
        have := Int.dvd_neg.2 e2
        have e : -((iStep q v).2.1 - s' * (hStep p v).2.1) = -(iStep q v).2.1 - -s' * (hStep p v).2.1 := by grind
        rwa [e] at this
      show (hStep p v).1 ∣ red (iStep q v).1 (-(iStep q v).2.1) - _
      rw [← h1]
      exact dvd_red e4 (Int.dvd_refl _)
  · refine ⟨h1, s', hs', ?_, ?_⟩
    · show (if _ < 0 then _ else _) = _
      rw [if_neg hn]
      exact e1
    · show _ ∣ red _ (if _ < 0 then _ else _) - _
      rw [if_neg hn]
      show (hStep p v).1 ∣ red (iStep q v).1 (iStep q v).2.1 - _
      rw [← h1]
      exact dvd_red e2 (Int.dvd_refl _)
theorem sim_zero : Sim (0, 0, 0) (0, 0, 0) := ⟨rfl, 1, sg1, rfl, by simp⟩
theorem sim_l (l : List (Int × Int)) : ∀ {p q : Int × Int × Int}, Sim p q → Sim (l.foldl hStep p) (l.foldl lStep q) := by
  induction l with
  | nil => intro p q h; exact h
  | cons v l ih => intro p q h; exact ih (h.l v)
theorem sim_i (l : List (Int × Int)) : ∀ {p q : Int × Int × Int}, Sim p q → Sim (l.foldl hStep p) (l.foldl iStep q) := by
  induction l with
  | nil => intro p q h; exact h
  | cons v l ih => intro p q h; exact ih (h.i v)
end Go.Proofs.Ytladcjoiaoaedaa
