/-
  The matrix that leads from a form to another in its class: what is returned.
-/
import Derived.Test.YtemnkfigjpphgaaIrn
namespace Go.Proofs.Ytemnkfigjpphgaa
open Go.RowKit
attribute [local simp, local go_sem] past_cell past_frozen past_tape
/-- The way along the cycle from x to y. -/
inductive Wk (r : Int) (y : Fm) : Fm → Mt → Mt → Bool → Prop
  | stop {x M} : x = y → Wk r y x M M true
  | bad {x M} : x ≠ y → ¬ mle 1000000 (mm M (nmg r x)) → Wk r y x M (0, 0, 0, 0) false
  | next {x M N ok} : x ≠ y → mle 1000000 (mm M (nmg r x)) → Wk r y (nbg r x) (mm M (nmg r x)) N ok → Wk r y x M N ok
theorem Wk.same {r : Int} {y x : Fm} {M N : Mt} {ok : Bool} (h : Wk r y x M N ok) : ∀ {N' ok'}, Wk r y x M N' ok' → N = N' ∧ ok = ok' := by
  induction h with
  | stop h =>
    intro N' ok' h'
    cases h' with
    | stop _ => exact ⟨rfl, rfl⟩
    | bad h2 _ => exact absurd h h2
    | next h2 _ _ => exact absurd h h2
  | bad h hm =>
    intro N' ok' h'
    cases h' with
    | stop h2 => exact absurd h2 h
    | bad _ _ => exact ⟨rfl, rfl⟩
    | next _ h3 _ => exact absurd h3 hm
  | next h hm _ ih =>
    intro N' ok' h'
    cases h' with
    | stop h2 => exact absurd h2 h
    | bad _ h3 => exact absurd hm h3
    | next _ _ h4 => exact ih h4
theorem Wk.facts {r : Int} {y x : Fm} {M N : Mt} {ok : Bool} (h : Wk r y x M N ok) (hok : ok = true) (hm : mle 1000000 M) (hd : mdet M = 1) : mle 1000000 N ∧ mdet N = 1 ∧ ∀ f0, fact f0 M = x → fact f0 N = y := by
  induction h with
  | stop h => exact ⟨hm, hd, fun f0 h0 => by rw [h0, h]⟩
  | bad _ _ => cases hok
  | next _ hm' _ ih =>
    obtain ⟨a, b, c⟩ := ih hok hm' (by rw [mdet_mm, hd]; unfold nmg; rw [nm_det]; rfl)
    exact ⟨a, b, fun f0 h0 => c f0 (by rw [fact_mm, h0]; rfl)⟩
theorem Wk.none {r : Int} {y x : Fm} {M N : Mt} {ok : Bool} (h : Wk r y x M N ok) (hok : ok = false) : N = (0, 0, 0, 0) := by
  induction h with
  | stop _ => cases hok
  | bad _ _ => rfl
  | next _ _ _ ih => exact ih hok
/-- How far it is to y. -/
def dstF (r : Int) (y : Fm) : Nat → Fm → Nat
  | 0, _ => 0
  | n + 1, x => if x = y then 0 else dstF r y n (nb r x) + 1
theorem dstF_more (r : Int) (y : Fm) : ∀ (i n : Nat) (x : Fm), nbn r i x = y → i ≤ n → dstF r y (n + 1) x = dstF r y n x ∨ i = n ∧ n = 0 ∧ x = y
  | 0, 0, x, h, _ => .inr ⟨rfl, rfl, h⟩
  | 0, n + 1, x, h, _ => by
    have h : x = y := h
    left
    show (if x = y then 0 else _) = (if x = y then 0 else _)
    rw [if_pos h, if_pos h]
  | i + 1, 0, x, h, hi => by omega
  | i + 1, n + 1, x, h, hi => by
    left
    show (if x = y then 0 else dstF r y (n + 1) (nb r x) + 1) = (if x = y then 0 else dstF r y n (nb r x) + 1)
    by_cases hx : x = y
    · rw [if_pos hx, if_pos hx]
    · rw [if_neg hx, if_neg hx]
      rcases dstF_more r y i n (nb r x) h (by omega) with e | ⟨e1, e2, e3⟩
      · rw [e]
      · subst e2
        have : dstF r y 1 (nb r x) = 0 := by
          show (if nb r x = y then 0 else _) = 0
          rw [if_pos e3]
        rw [this]; rfl
def dst (r : Int) (y x : Fm) : Nat := dstF r y 2200 x
theorem dst_less {r : Int} {y x : Fm} {i : Nat} (h : nbn r i x = y) (hi : i ≤ 2100) (hx : x ≠ y) : dst r y (nb r x) < dst r y x ∧ ∃ j, j ≤ 2100 ∧ nbn r j (nb r x) = y := by
  obtain ⟨j, rfl⟩ : ∃ j, i = j + 1 := ⟨i - 1, by
    rcases Nat.eq_zero_or_pos i with h0 | h0
    · subst h0; exact absurd h hx
    · omega⟩
  have h' : nbn r j (nb r x) = y := h
  refine ⟨?_, j, by omega, h'⟩
  unfold dst
  have e1 : dstF r y 2200 x = dstF r y 2199 (nb r x) + 1 := by
    show (if x = y then 0 else _) = _
    rw [if_neg hx]
  rcases dstF_more r y j 2199 (nb r x) h' (by omega) with e | ⟨_, e2, _⟩
  · have e' : dstF r y 2200 (nb r x) = dstF r y 2199 (nb r x) := e
    omega
  · omega
def minv (N : Mt) : Mt := (N.2.2.2, -N.2.1, -N.2.2.1, N.1)
theorem mm_minv {N : Mt} (h : mdet N = 1) : mm N (minv N) = mI := by
  obtain ⟨p, q, r, s⟩ := N
  simp only [mdet] at h
  refine Prod.ext ?_ (Prod.ext ?_ (Prod.ext ?_ ?_)) <;> simp only [mm, minv, mI] <;> grind
theorem minv_det (N : Mt) : mdet (minv N) = mdet N := by simp only [mdet, minv]; grind
theorem mle_minv {N : Mt} (h : mle 1000000 N) : mle 1000000 (minv N) := by
  obtain ⟨a, b, c, d⟩ := h
  exact ⟨d, by simp only [minv]; omega, by simp only [minv]; omega, a⟩
/-- What CycleMatrix returns. -/
def CM (f f' : Fm) (m : Mt) (ok : Bool) : Prop := ∃ x M o y N o', RI f x M o ∧ RI f' y N o' ∧
  ((((o && o') = false ∨ ¬ InC (isqrt (discW f.1 f.2.1 f.2.2)) x y) ∧ m = (0, 0, 0, 0) ∧ ok = false) ∨
   ((o && o') = true ∧ InC (isqrt (discW f.1 f.2.1 f.2.2)) x y ∧ ∃ P ok2, Wk (isqrt (discW f.1 f.2.1 f.2.2)) y x M P ok2 ∧
     ((¬ (ok2 = true ∧ mle 1000000 (mm P (minv N))) ∧ m = (0, 0, 0, 0) ∧ ok = false) ∨ (ok2 = true ∧ mle 1000000 (mm P (minv N)) ∧ m = mm P (minv N) ∧ ok = true))))
theorem CM.same {f f' : Fm} {m m' : Mt} {ok ok' : Bool} (h : CM f f' m ok) (h' : CM f f' m' ok') : m = m' ∧ ok = ok' := by
  obtain ⟨x, M, o, y, N, p, h1, h2, h3⟩ := h
  obtain ⟨x', M', o', y', N', p', k1, k2, k3⟩ := h'
  obtain ⟨rfl, rfl, rfl⟩ := h1.same k1
  obtain ⟨rfl, rfl, rfl⟩ := h2.same k2
  rcases h3 with ⟨a, rfl, rfl⟩ | ⟨a, b, P, o2, hw, h3⟩ <;> rcases k3 with ⟨a', rfl, rfl⟩ | ⟨a', b', P', o2', hw', k3⟩
  · exact ⟨rfl, rfl⟩
  · rcases a with a | a
    · rw [a] at a'; cases a'
    · exact absurd b' a
  · rcases a' with a' | a'
    · rw [a] at a'; cases a'
    · exact absurd b a'
  · obtain ⟨rfl, rfl⟩ := hw.same hw'
    rcases h3 with ⟨c, rfl, rfl⟩ | ⟨c1, c2, rfl, rfl⟩ <;> rcases k3 with ⟨c', rfl, rfl⟩ | ⟨c1', c2', rfl, rfl⟩
    · exact ⟨rfl, rfl⟩
    · exact absurd ⟨c1', c2'⟩ c
    · exact absurd ⟨c1, c2⟩ c'
    · exact ⟨rfl, rfl⟩
/-- A matrix that is returned does what it claims. -/
theorem CM.good {f f' : Fm} {m : Mt} {ok : Bool} (h : CM f f' m ok) (hok : ok = true) : indB f.1 f.2.1 f.2.2 = true ∧ indB f'.1 f'.2.1 f'.2.2 = true ∧ mle 1000000 m ∧ mdet m = 1 ∧ fact f m = f' ∧ SC f f' true true := by
  obtain ⟨x, M, o, y, N, p, h1, h2, h3⟩ := h
  rcases h3 with ⟨_, _, rfl⟩ | ⟨a, b, P, o2, hw, ⟨_, _, rfl⟩ | ⟨c1, c2, rfl, _⟩⟩
  · cases hok
  · cases hok
  · have ho : o = true ∧ p = true := by simpa using a
    obtain ⟨g1, g2, g3, g4, g5, g6⟩ := h1.good ho.1
    obtain ⟨e1, e2, e3, e4, e5, e6⟩ := h2.good ho.2
    obtain ⟨q1, q2, q3⟩ := hw.facts c1 g4 g5
    refine ⟨g1, e1, c2, by rw [mdet_mm, q2, minv_det, e5]; rfl, ?_, ⟨x, M, o, y, N, p, h1, h2, a.symm, fun h => (by cases h), fun _ => ⟨fun _ => b, fun _ => rfl⟩⟩⟩
    rw [fact_mm, q3 f g6, ← e6, ← fact_mm, mm_minv e5, fact_one]
/-- The blocks of the loop: x at X, its matrix behind it; y at Y, its matrix behind it; the result at R. -/
structure KM (w wr : World) (R X Y : Nat) (x : Fm) (M : Mt) (y : Fm) (N : Mt) : Prop where
  x : Blk X 36 #[.int .i64 x.1, .int .i64 x.2.1, .int .i64 x.2.2] wr
  m : Blk (X + 1) 40 #[.int .i64 M.1, .int .i64 M.2.1, .int .i64 M.2.2.1, .int .i64 M.2.2.2] wr
  y : Blk Y 36 #[.int .i64 y.1, .int .i64 y.2.1, .int .i64 y.2.2] wr
  n : Blk (Y + 1) 40 #[.int .i64 N.1, .int .i64 N.2.1, .int .i64 N.2.2.1, .int .i64 N.2.2.2] wr
  r : Blk R 40 #[.int .i64 0, .int .i64 0, .int .i64 0, .int .i64 0] wr
  b : Below w.heap.size w wr
  o : w.heap.size ≤ R ∧ R < X ∧ X + 1 < Y
theorem KM.below {w wr w' : World} {R X Y : Nat} {x y : Fm} {M N : Mt} (h : KM w wr R X Y x M y N) (hb : Below wr.heap.size wr w') : KM w w' R X Y x M y N :=
  ⟨h.x.below hb, h.m.below hb, h.y.below hb, h.n.below hb, h.r.below hb, h.b.trans (hb.mono h.b.size), h.o⟩
theorem KM.alloc {w wr : World} {R X Y : Nat} {x y : Fm} {M N : Mt} (h : KM w wr R X Y x M y N) (o : Obj) : KM w (wr.alloc o) R X Y x M y N :=
  ⟨h.x.alloc o, h.m.alloc o, h.y.alloc o, h.n.alloc o, h.r.alloc o, h.b.alloc (by have := h.b.size; omega) _, h.o⟩
theorem inverse_minv (N : Mt) (w : World) (h : mle 1000000 N) (hd : mdet N = 1) :
    Calls Try.prog 72 #[.agg #[.int .i64 N.1, .int .i64 N.2.1, .int .i64 N.2.2.1, .int .i64 N.2.2.2]] w fun en w' => en = .returned (.agg #[.int .i64 ((minv N).1), .int .i64 ((minv N).2.1), .int .i64 ((minv N).2.2.1), .int .i64 ((minv N).2.2.2)]) ∧ Below w.heap.size w w' := by
  have hm := mB_mle.2 h
  have e := dW_eq hm
  obtain ⟨p, q, r, s⟩ := N
  obtain ⟨h1, h2, h3, h4⟩ := h
  simp only [mdet] at *
  rw [hd] at e
  have k := minv_any p q r s w
  have e1 : iP p q r s = s := by unfold iP; rw [e]; unfold wrap64; omega
  have e2 : iQ p q r s = -q := by unfold iQ; rw [e]; unfold wrap64; omega
  have e3 : iR p q r s = -r := by unfold iR; rw [e]; unfold wrap64; omega
  have e4 : iS p q r s = p := by unfold iS; rw [e]; unfold wrap64; omega
  rwa [e1, e2, e3, e4] at k
theorem foInverse_minv (N : Mt) (w : World) (h : mle 1000000 N) (hd : mdet N = 1) :
    Calls Try.prog 82 #[.agg #[.int .i64 N.1, .int .i64 N.2.1, .int .i64 N.2.2.1, .int .i64 N.2.2.2]] w fun en w' => en = .returned (.agg #[.int .i64 ((minv N).1), .int .i64 ((minv N).2.1), .int .i64 ((minv N).2.2.1), .int .i64 ((minv N).2.2.2)]) ∧ Below w.heap.size w w' := by
  have hm := mB_mle.2 h
  have e := dW_eq hm
  obtain ⟨p, q, r, s⟩ := N
  obtain ⟨h1, h2, h3, h4⟩ := h
  simp only [mdet] at *
  rw [hd] at e
  have k := sinv_any p q r s w
  have e1 : iP p q r s = s := by unfold iP; rw [e]; unfold wrap64; omega
  have e2 : iQ p q r s = -q := by unfold iQ; rw [e]; unfold wrap64; omega
  have e3 : iR p q r s = -r := by unfold iR; rw [e]; unfold wrap64; omega
  have e4 : iS p q r s = p := by unfold iS; rw [e]; unfold wrap64; omega
  rwa [e1, e2, e3, e4] at k
end Go.Proofs.Ytemnkfigjpphgaa
