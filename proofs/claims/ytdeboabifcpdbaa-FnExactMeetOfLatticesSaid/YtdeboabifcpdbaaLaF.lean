/-
  Lattices of lists of vectors: the facts that the walks need. Plain mathematics, but for the last part.
-/
import Derived.Test.YtdeboabifcpdbaaSumM
import Derived.Test.YtdeboabifcpdbaaLaS
import Derived.Test.YtdeboabifcpdbaaLat
namespace Go.Proofs.Ytdeboabifcpdbaa
open Go.RowKit
attribute [local simp, local go_sem] past_cell past_frozen past_tape
theorem o_side : OSide 10000 10000 200000000 3000000000000 6000000000000 := ⟨by decide, by decide, by decide, by decide, by decide, by decide, by decide, by decide, by decide, by decide, by decide⟩
abbrev OI (a b d : Int) : Prop := OInv 10000 10000 200000000 a b d
theorem oi_zero : OI 0 0 0 := ⟨bd00 (by omega), by omega, by omega, fun h => absurd rfl h, fun _ => ⟨bd00 (by omega), fun _ => rfl⟩⟩
theorem oi_h {a b d x y : Int} (h : OI a b d) (hx : Bd 10000 x) (hy : Bd 10000 y) : FitI a (a, b, d) (x, y) ∧ OI (hStep (a, b, d) (x, y)).1 (hStep (a, b, d) (x, y)).2.1 (hStep (a, b, d) (x, y)).2.2 := by
  obtain ⟨h1, h2, _, h4⟩ := o_next o_side (m := a) (Or.inl rfl) h hx hy
  exact ⟨⟨_, _, _, h1, h2⟩, h4⟩
theorem oi_sign {a b d : Int} (z : Int) (hz : red a z = b) (h : OI a b d) : OI a (red a (if d < 0 then -z else z)) (if d < 0 then -d else d) := by
  obtain ⟨⟨h1, h2⟩, h3, h4, h5, h6⟩ := h
  refine ⟨?_, h3, h4, ?_, ?_⟩
  · split <;> exact ⟨by omega, by omega⟩
  · intro ha
    unfold red
    rw [if_neg ha]
    exact ⟨Int.emod_nonneg _ ha, Int.emod_lt_of_pos _ (by omega)⟩
  · intro ha
    unfold red at hz ⊢
    rw [if_pos ha] at hz ⊢
    subst hz
    obtain ⟨⟨q1, q2⟩, q3⟩ := h6 ha
    refine ⟨?_, ?_⟩
    · split <;> exact ⟨by omega, by omega⟩
    · intro hd
      have : d = 0 := by split at hd <;> omega
      have := q3 this
      split <;> omega
theorem oi_l {a b d x y : Int} (h : OI a b d) (hx : Bd 10000 x) (hy : Bd 10000 y) : FitI 0 (a, b, d) (x, y) ∧ OI (lStep (a, b, d) (x, y)).1 (lStep (a, b, d) (x, y)).2.1 (lStep (a, b, d) (x, y)).2.2 := by
  obtain ⟨h1, h2, _, h4⟩ := o_next o_side (m := 0) (Or.inr rfl) h hx hy
  rw [← eucS_eq] at h4
  exact ⟨⟨_, _, _, h1, h2⟩, oi_sign _ rfl h4⟩
def Small (l : List (Int × Int)) : Prop := ∀ g ∈ l, Bd 10000 g.1 ∧ Bd 10000 g.2
theorem oi_foldH (l : List (Int × Int)) : ∀ s : Int × Int × Int, Small l → OI s.1 s.2.1 s.2.2 → OI (l.foldl hStep s).1 (l.foldl hStep s).2.1 (l.foldl hStep s).2.2 := by
  induction l with
  | nil => intro s _ h; exact h
  | cons v l ih =>
    intro s hl h
    obtain ⟨h1, h2⟩ := hl v (by simp)
    exact ih _ (fun g hg => hl g (by simp [hg])) (oi_h (x := v.1) (y := v.2) h h1 h2).2
theorem oi_foldL (l : List (Int × Int)) : ∀ s : Int × Int × Int, Small l → OI s.1 s.2.1 s.2.2 → OI (l.foldl lStep s).1 (l.foldl lStep s).2.1 (l.foldl lStep s).2.2 := by
  induction l with
  | nil => intro s _ h; exact h
  | cons v l ih =>
    intro s hl h
    obtain ⟨h1, h2⟩ := hl v (by simp)
    exact ih _ (fun g hg => hl g (by simp [hg])) (oi_l (x := v.1) (y := v.2) h h1 h2).2
theorem small_take {l : List (Int × Int)} (h : Small l) (k : Nat) : Small (l.take k) := fun g hg => h g (List.mem_of_mem_take hg)
theorem small_get {l : List (Int × Int)} (h : Small l) (k : Nat) (hk : k < l.length) : Bd 10000 (l.getD k (0, 0)).1 ∧ Bd 10000 (l.getD k (0, 0)).2 := by
  have : l.getD k (0, 0) ∈ l := by
    rw [List.getD_eq_getElem?_getD, List.getElem?_eq_getElem hk, Option.getD_some]
    exact List.getElem_mem hk
  exact h _ this
theorem fitH {l : List (Int × Int)} (h : Small l) (k : Nat) (hk : k < l.length) : FitI ((l.take k).foldl hStep (0, 0, 0)).1 ((l.take k).foldl hStep (0, 0, 0)) (l.getD k (0, 0)) := by
  obtain ⟨h1, h2⟩ := small_get h k hk
  exact (oi_h (oi_foldH _ (0, 0, 0) (small_take h k) oi_zero) h1 h2).1
theorem fitL {l : List (Int × Int)} (h : Small l) (k : Nat) (hk : k < l.length) : FitI 0 ((l.take k).foldl lStep (0, 0, 0)) (l.getD k (0, 0)) := by
  obtain ⟨h1, h2⟩ := small_get h k hk
  exact (oi_l (oi_foldL _ (0, 0, 0) (small_take h k) oi_zero) h1 h2).1
theorem foldL_pos (l : List (Int × Int)) : ∀ s : Int × Int × Int, 0 ≤ s.2.2 → 0 ≤ (l.foldl lStep s).2.2 := by
  induction l with
  | nil => intro s h; exact h
  | cons v l ih =>
    intro s h
    refine ih _ ?_
    show 0 ≤ (if _ < 0 then _ else _)
    split <;> omega
/-- The reference's answer. -/
def lT (l : List (Int × Int)) : Int × Int × Int := l.foldl lStep (0, 0, 0)
def lS (l : List (Int × Int)) : Int × Int × Int := l.foldl hStep (0, 0, 0)
theorem emod_same {a b b' : Int} (h : a ∣ b' - b) (h1 : 0 ≤ b') (h2 : b' < a) : b' = b % a := by
  obtain ⟨m, hm⟩ := h
  have e : b' = b + a * m := by omega
  have e2 := Int.add_mul_emod_self_left b a m
  rw [← e, Int.emod_eq_of_lt h1 h2] at e2
  exact e2
theorem l_same {l : List (Int × Int)} (h : Small l) : (lT l).1 = (lS l).1 ∧ ((lS l).1 ≠ 0 → (lS l).2.2 ≠ 0 → (lT l).2.1 = bN (lS l).1 (lS l).2.1 (lS l).2.2 ∧ (lT l).2.2 = ((lS l).2.2.natAbs : Int)) ∧ ((lS l).2.2 = 0 → (lT l).2.2 = 0) := by
  have hH : OI (lS l).1 (lS l).2.1 (lS l).2.2 := oi_foldH l (0, 0, 0) h oi_zero
  have hL : OI (lT l).1 (lT l).2.1 (lT l).2.2 := oi_foldL l (0, 0, 0) h oi_zero
  have hp : 0 ≤ (lT l).2.2 := foldL_pos l (0, 0, 0) (Int.le_refl _)
  obtain ⟨e1, s, hs, e2, e3⟩ : Sim (lS l) (lT l) := sim_l l sim_zero
  have r1 := hH.red1
  have r2 := hL.red1
  generalize lS l = p at *
  generalize lT l = q at *
  obtain ⟨a, b, d⟩ := p
  obtain ⟨a', b', d'⟩ := q
  simp only at *
  subst e1
  refine ⟨rfl, fun ha hd => ?_, fun hd => by rw [e2, hd, Int.mul_zero]⟩
  obtain ⟨p1, p2⟩ := r1 ha
  obtain ⟨p3, p4⟩ := r2 ha
  rcases hs with rfl | rfl
  · have hd' : ¬ d < 0 := by omega
    refine ⟨?_, by omega⟩
    unfold bN
    rw [if_neg hd']
    rw [Int.one_mul] at e3
    rw [emod_same e3 p3 p4, Int.emod_eq_of_lt p1 p2]
  · have hd' : d < 0 := by omega
    refine ⟨?_, by omega⟩
    unfold bN
    rw [if_pos hd']
    refine emod_same ?_ p3 p4
    rwa [show b' - -b = b' - -1 * b by omega]
end Go.Proofs.Ytdeboabifcpdbaa
