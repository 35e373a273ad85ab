/-
  Ideals of lists of generators: the facts that the walks need; and append of two rows of two elements.
-/
import Derived.Test.YtladcjoiaoaedaaSumM
import Derived.Test.YtladcjoiaoaedaaPrin
import Derived.Test.YtladcjoiaoaedaaIdealC
import Derived.Test.YtladcjoiaoaedaaMix
import Derived.Deep.AppendLies
import Derived.OwnWalk
namespace Go.Proofs.Ytladcjoiaoaedaa
open Go.RowKit
attribute [local simp, local go_sem] past_cell past_frozen past_tape
/-- The normal form of the ideal of some generators. -/
def lS (l : List (Int × Int)) : Int × Int × Int := l.foldl hStep (0, 0, 0)
def lT (l : List (Int × Int)) : Int × Int × Int := l.foldl iStep (0, 0, 0)
def lE (l : List (Int × Int)) : Int := ((lS l).2.2.natAbs : Int)
def lA (l : List (Int × Int)) : Int := oA (lS l).1 (lS l).2.2
def lB (l : List (Int × Int)) : Int := oB (lS l).1 (lS l).2.1 (lS l).2.2
structure LF (l : List (Int × Int)) : Prop where
  len : l.length ≤ 1000
  fh : ∀ k, k < l.length → FitI ((l.take k).foldl hStep (0, 0, 0)).1 ((l.take k).foldl hStep (0, 0, 0)) (l.getD k (0, 0))
  fi : ∀ k, k < l.length → FitI 0 ((l.take k).foldl iStep (0, 0, 0)) (l.getD k (0, 0))
  nice : Nice (lS l).1 (lS l).2.1 (lS l).2.2
  r : 0 ≤ (lS l).2.1 ∧ (lS l).2.1 < (lS l).1
  a4 : (lS l).1 ≤ 4000000000000000000
  d4 : ((lS l).2.2.natAbs : Int) ≤ 4000000000000000000
theorem lf_same {l : List (Int × Int)} (h : LF l) : (lT l).2.2 ≠ 0 ∧ 1 ≤ (lT l).1 / (2 * ((lT l).2.2.natAbs : Int)) ∧ ((lT l).2.2.natAbs : Int) = lE l ∧ (lT l).1 / (2 * ((lT l).2.2.natAbs : Int)) = lA l ∧
    ((-(if (lT l).2.2 < 0 then -(lT l).2.1 else (lT l).2.1)).tdiv ((lT l).2.2.natAbs : Int)) % (2 * ((lT l).1 / (2 * ((lT l).2.2.natAbs : Int)))) = lB l ∧ 1 ≤ lA l ∧ 0 ≤ bN (lS l).1 (lS l).2.1 (lS l).2.2 ∧ bN (lS l).1 (lS l).2.1 (lS l).2.2 < (lS l).1 := by
  obtain ⟨h1, h2, h3, h4, h5, h6, h7⟩ := nice_same (n := (lT l).1) (U := (lT l).2.1) (V := (lT l).2.2) h.nice (sim_i l sim_zero) h.r
  refine ⟨h2, by rw [h1, h3]; exact h5, h3, by rw [h1, h3]; rfl, h4, h5, h7, h6⟩
theorem idealOfL {l : List (Int × Int)} (h : LF l) (g c : Nat) (w : World) (hg : g < w.heap.size) (hc : ∀ k, k < l.length → w.cell? ⟨g, k * 2, none⟩ = some (.int .i64 ((l.getD k (0, 0)).1)) ∧ w.cell? ⟨g, k * 2 + 1, none⟩ = some (.int .i64 ((l.getD k (0, 0)).2))) :
    Calls Try.prog 79 #[.slice (some ⟨g, 0, none⟩) l.length c] w fun en w' => en = .returned (.agg #[.int .i64 (lE l), .int .i64 (lA l), .int .i64 (lB l)]) ∧ Below w.heap.size w w' := by
  obtain ⟨_, _, _, _, _, s1, s2, s3⟩ := lf_same h
  exact idealOf_any l g c w (lS l).1 (lS l).2.1 (lS l).2.2 h.len hg hc h.fh rfl h.nice h.a4 ⟨s2, s3⟩ s1 h.d4
theorem idSpanL {l : List (Int × Int)} (h : LF l) (g c : Nat) (w : World) (hg : g < w.heap.size) (hc : ∀ k, k < l.length → w.cell? ⟨g, k * 2, none⟩ = some (.int .i64 ((l.getD k (0, 0)).1)) ∧ w.cell? ⟨g, k * 2 + 1, none⟩ = some (.int .i64 ((l.getD k (0, 0)).2))) :
    Calls Try.prog 77 #[.slice (some ⟨g, 0, none⟩) l.length c] w fun en w' => en = .returned (.agg #[.int .i64 (lE l), .int .i64 (lA l), .int .i64 (lB l)]) ∧ Below w.heap.size w w' := by
  obtain ⟨t1, t2, t3, t4, t5, _⟩ := lf_same h
  have := idSpan_any l g c w (lT l).1 (lT l).2.1 (lT l).2.2 h.len hg hc h.fi rfl t1 t2
  rw [t5, t4, t3] at this
  exact this
theorem abs_bd {Y K d : Int} (h : Bd Y d) (hY : Y ≤ K) : (d.natAbs : Int) ≤ K := by
  obtain ⟨h1, h2⟩ := h
  omega
theorem sum_lf {d e a b e' a' b' : Int} (h : idB d e a b = true) (h' : idB d e' a' b' = true) : LF (sumL e a b e' a' b') := by
  obtain ⟨m1, m2, m3, m4⟩ := ib_facts h
  obtain ⟨n1, n2, n3, n4⟩ := ib_facts h'
  obtain ⟨p0, _, _, p3, _, _, _, p7⟩ := idB_true h
  obtain ⟨_, _, _, q3, _, _, _, q7⟩ := idB_true h'
  obtain ⟨d1, d2, d3⟩ := negB_true p0
  have pos : 0 < 2 * e * a := Int.mul_pos (by omega) (by omega)
  have z0 : ∀ {k : Int}, 0 ≤ k → Bd k 0 := fun hk => bd00 hk
  -- the program's way
  have s1 : StA 200000000 10000 (2 * e * a) 0 0 := ⟨pos, m1.2, Int.le_refl _, pos, z0 (by omega)⟩
  obtain ⟨f2, s2⟩ := stA_fit s1 (by omega) (by omega) (by omega) (by omega) m2 (show Bd 10000 e from ⟨by omega, by omega⟩)
  obtain ⟨f3, s3⟩ := stA_fit s2 (by omega) (by omega) (by omega) (by omega) n1 (show Bd 10000 0 from z0 (by omega))
  obtain ⟨f4, s4⟩ := stA_fit s3 (by omega) (by omega) (by omega) (by omega) n2 (show Bd 10000 e' from ⟨by omega, by omega⟩)
  have e1 : hStep (0, 0, 0) (2 * e * a, 0) = (2 * e * a, 0, 0) := first_flat pos
  -- the reference's way
  have u1 : iStep (0, 0, 0) (2 * e * a, 0) = ((Int.gcd 0 (2 * e * a) : Int), 0, 0) := iStep_flat 0 0 0 _
  obtain ⟨k2, x2, y2⟩ := stS_fit (X := 0) (Y := 10000) (X' := 200000000) (S := 2000000000000) (n := (Int.gcd 0 (2 * e * a) : Int)) (U := 0) (V := 0) (x := -e * b) (y := e) (z0 (by omega)) (z0 (by omega)) m2 ⟨by omega, by omega⟩ (by omega) (by omega) (by omega) (by omega) (by omega) (by omega) (by omega) (by omega)
  obtain ⟨k3, x3, y3⟩ := stS_fit (X := 4000000000000) (Y := 10000) (X' := 200000000) (S := 50000000000000000) (n := (iStep ((Int.gcd 0 (2 * e * a) : Int), 0, 0) (-e * b, e)).1) (x := 2 * e' * a') (y := 0) x2 y2 n1 (z0 (by omega)) (by omega) (by omega) (by omega) (by omega) (by omega) (by omega) (by omega) (by omega)
  have u3 : iStep (iStep ((Int.gcd 0 (2 * e * a) : Int), 0, 0) (-e * b, e)) (2 * e' * a', 0) = ((Int.gcd (iStep ((Int.gcd 0 (2 * e * a) : Int), 0, 0) (-e * b, e)).1 (2 * e' * a') : Int), (iStep ((Int.gcd 0 (2 * e * a) : Int), 0, 0) (-e * b, e)).2.1, (iStep ((Int.gcd 0 (2 * e * a) : Int), 0, 0) (-e * b, e)).2.2) := iStep_flat _ _ _ _
  obtain ⟨k4, _, _⟩ := stS_fit (X := 4000000000000) (Y := 10000) (X' := 200000000) (S := 50000000000000000) (n := (Int.gcd (iStep ((Int.gcd 0 (2 * e * a) : Int), 0, 0) (-e * b, e)).1 (2 * e' * a') : Int)) (x := -e' * b') (y := e') x2 y2 n2 ⟨by omega, by omega⟩ (by omega) (by omega) (by omega) (by omega) (by omega) (by omega) (by omega) (by omega)
  have eS : lS (sumL e a b e' a' b') = hStep (hStep (hStep (2 * e * a, 0, 0) (-e * b, e)) (2 * e' * a', 0)) (-e' * b', e') := by
    show hStep (hStep (hStep (hStep (0, 0, 0) (2 * e * a, 0)) (-e * b, e)) (2 * e' * a', 0)) (-e' * b', e') = _
    rw [e1]
  have hn : Nice (lS (sumL e a b e' a' b')).1 (lS (sumL e a b e' a' b')).2.1 (lS (sumL e a b e' a' b')).2.2 := by
    refine fold_nice (d % 2) _ (sum_gen (par p7 d3) (par q7 d3)) (-e * b, e) (by simp [sumL]) (by show e ≠ 0; omega) ?_
    have q : (sumL e a b e' a' b').foldl hStep (0, 0, 0) = _ := eS
    rw [q]
    exact Int.ne_of_gt s4.a0
  have hd := s4.hd
  refine ⟨by simp [sumL], ?_, ?_, hn, ?_, ?_, ?_⟩
  · intro k hk
    match k, hk with
    | 0, _ => exact first_fit (M := 200000000) 0 rfl m1 (by omega) (by omega)
    | 1, _ => show FitI (hStep (0, 0, 0) (2 * e * a, 0)).1 (hStep (0, 0, 0) (2 * e * a, 0)) (-e * b, e); rw [e1]; exact f2
    | 2, _ => show FitI (hStep (hStep (0, 0, 0) (2 * e * a, 0)) (-e * b, e)).1 (hStep (hStep (0, 0, 0) (2 * e * a, 0)) (-e * b, e)) (2 * e' * a', 0); rw [e1]; exact f3
    | 3, _ => show FitI (hStep (hStep (hStep (0, 0, 0) (2 * e * a, 0)) (-e * b, e)) (2 * e' * a', 0)).1 (hStep (hStep (hStep (0, 0, 0) (2 * e * a, 0)) (-e * b, e)) (2 * e' * a', 0)) (-e' * b', e'); rw [e1]; exact f4
  · intro k hk
    match k, hk with
    | 0, _ => exact first_fit (M := 200000000) 0 rfl m1 (by omega) (by omega)
    | 1, _ => show FitI 0 (iStep (0, 0, 0) (2 * e * a, 0)) (-e * b, e); rw [u1]; exact k2
    | 2, _ => show FitI 0 (iStep (iStep (0, 0, 0) (2 * e * a, 0)) (-e * b, e)) (2 * e' * a', 0); rw [u1]; exact k3
    | 3, _ => show FitI 0 (iStep (iStep (iStep (0, 0, 0) (2 * e * a, 0)) (-e * b, e)) (2 * e' * a', 0)) (-e' * b', e'); rw [u1, u3]; exact k4
  · rw [eS]; exact ⟨s4.b0, s4.ba⟩
  · rw [eS]; exact Int.le_trans s4.aM (by decide)
  · rw [eS]; exact abs_bd hd (by decide)
/-- Two rows of two elements, one behind the other. -/
theorem append22 {ops : Array Oper} {rest : List Oper} {o : Oper} {a : Act} {Q : Exit → Act → World → Prop} (w : World) (hgd : o.guard = none) (s x : Operand) (t : TypeId)
    (ho : o.op = .call { callee := .builtin .append, args := #[s, x], argTypes := #[t, t] }) (T : TypeId) (ht : Try.prog.underlying t = some (.slice T))
    (hi : (Try.prog.info? T).map (fun i => (i.zero, i.size, i.bytes)) = some (some (.agg #[.int .i64 0, .int .i64 0]), 2, 16)) (g1 g2 : Nat) (p0 p1 p2 p3 q0 q1 q2 q3 : Int)
    (hs : a.eval s = .slice (some ⟨g1, 0, none⟩) 2 2) (hx : a.eval x = .slice (some ⟨g2, 0, none⟩) 2 2)
    (h1 : w.heap[g1]? = some (.cells #[.int .i64 p0, .int .i64 p1, .int .i64 p2, .int .i64 p3] T (0, 0))) (h2 : w.heap[g2]? = some (.cells #[.int .i64 q0, .int .i64 q1, .int .i64 q2, .int .i64 q3] T (0, 0)))
    (h : ∀ g cap w', Below g1 w w' → g < w'.heap.size → (∀ j, j < 8 → w'.cell? ⟨g, j, none⟩ = (#[.int .i64 p0, .int .i64 p1, .int .i64 p2, .int .i64 p3, .int .i64 q0, .int .i64 q1, .int .i64 q2, .int .i64 q3] : Array Value)[j]?) → wpList Try.prog ops Q rest (a.put o.dst (.slice (some ⟨g, 0, none⟩) 4 cap)) w') : wpList Try.prog ops Q (o :: rest) a w := by
  obtain ⟨i, hi1, hz, hsz, hby⟩ := info_parts hi
  have hlt : g1 < w.heap.size := by
    rcases Nat.lt_or_ge g1 w.heap.size with h0 | h0
    · exact h0
    · rw [Array.getElem?_eq_none h0] at h1; cases h1
  refine wpList_append_lies w hgd s x t ho g1 T i (.agg #[.int .i64 0, .int .i64 0]) 2 16 ht hi1 hz hsz hby rfl (by omega) (.slice (some ⟨g1, 0, none⟩) 2 2) 2 [.int .i64 p0, .int .i64 p1, .int .i64 p2, .int .i64 p3] hs ?_
    ⟨g2, 0, none⟩ 2 2 [.int .i64 q0, .int .i64 q1, .int .i64 q2, .int .i64 q3] hx rfl (fun j u hu => World.news_of_block h2 j u hu) ?_ (by omega) (by decide) (by omega) (by omega) _ rfl ?_
  · exact ⟨rfl, .inr ⟨g1, 2, _, rfl, Nat.le_refl _, h1, Nat.le_refl _, by decide, rfl, rfl⟩⟩
  · intro u hu
    simp at hu
    rcases hu with rfl | rfl | rfl | rfl <;> rfl
  · intro g cap w' hown hgrow _ hgl
    refine h g cap w' (Below.grown (Below.refl _ _) hgrow (Nat.le_of_lt hlt) (fun k hk => by simp [Value.ownBlock] at hk; omega)) hgl fun j hj => ?_
    rw [hown.cellAt j (by omega)]
    simp
end Go.Proofs.Ytladcjoiaoaedaa
