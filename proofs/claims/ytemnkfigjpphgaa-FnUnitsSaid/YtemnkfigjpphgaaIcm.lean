/-
  Reduction of indefinite forms and the comparison of their cycles: what is returned, and the walks, both ways.
-/
import Derived.Test.YtemnkfigjpphgaaIrt
import Derived.Test.YtemnkfigjpphgaaIcs
namespace Go.Proofs.Ytemnkfigjpphgaa
open Go.RowKit
attribute [local simp, local go_sem] past_cell past_frozen past_tape
/-- What ReduceIndefinite returns. -/
def RI (f : Fm) (g : Fm) (N : Mt) (ok : Bool) : Prop :=
  (indB f.1 f.2.1 f.2.2 = true ∧ Rd (isqrt (discW f.1 f.2.1 f.2.2)) f mI g N ok) ∨ (indB f.1 f.2.1 f.2.2 = false ∧ g = (0, 0, 0) ∧ N = (0, 0, 0, 0) ∧ ok = false)
theorem RI.same {f g g' : Fm} {N N' : Mt} {ok ok' : Bool} (h : RI f g N ok) (h' : RI f g' N' ok') : g = g' ∧ N = N' ∧ ok = ok' := by
  rcases h with ⟨h1, h2⟩ | ⟨h1, rfl, rfl, rfl⟩ <;> rcases h' with ⟨k1, k2⟩ | ⟨k1, rfl, rfl, rfl⟩
  · exact h2.same k2
  · rw [h1] at k1; cases k1
  · rw [h1] at k1; cases k1
  · exact ⟨rfl, rfl, rfl⟩
theorem Rd.none {r : Int} {f : Fm} {M : Mt} {g : Fm} {N : Mt} {ok : Bool} (h : Rd r f M g N ok) (hok : ok = false) : g = (0, 0, 0) ∧ N = (0, 0, 0, 0) := by
  induction h with
  | stop _ => cases hok
  | bad _ _ => exact ⟨rfl, rfl⟩
  | next _ _ _ ih => exact ih hok
theorem RI.bad {f g : Fm} {N : Mt} {ok : Bool} (h : RI f g N ok) (hok : ok = false) : g = (0, 0, 0) ∧ N = (0, 0, 0, 0) := by
  rcases h with ⟨h1, h2⟩ | ⟨h1, rfl, rfl, rfl⟩
  · exact h2.none hok
  · exact ⟨rfl, rfl⟩
theorem RI.good {f g : Fm} {N : Mt} {ok : Bool} (h : RI f g N ok) (hok : ok = true) : indB f.1 f.2.1 f.2.2 = true ∧ Cy (isqrt (discW f.1 f.2.1 f.2.2)) g ∧ Gd (isqrt (discW f.1 f.2.1 f.2.2)) (discW f.1 f.2.1 f.2.2) g ∧ mle 1000000 N ∧ mdet N = 1 ∧ fact f N = g := by
  rcases h with ⟨h1, h2⟩ | ⟨h1, rfl, rfl, rfl⟩
  · obtain ⟨a, b, c, d, e⟩ := h2.facts (ind_gd h1) ⟨by decide, by decide, by decide, by decide⟩ rfl hok
    exact ⟨h1, cyB_iff.1 a, b, c, d, e f (fact_one f)⟩
  · cases hok
theorem ind_pos {a b c : Int} (h : indB a b c = true) : posB (discW a b c) = true := by
  simp only [indB, Bool.and_eq_true] at h
  exact h.2
theorem ci_of {r d : Int} {x : Fm} (hc : Cy r x) (hg : Gd r d x) : ∃ n, CI r d n x 0 := by
  obtain ⟨n, h1, h2, h3, h4⟩ := nbn_first hc hg.root hg.r31
  exact ⟨n, hc, hg, by omega, h2, h3, h4⟩
/-- To lie in a cycle. -/
def InC (r : Int) (x y : Fm) : Prop := ∃ i, nbn r i x = y
theorem inC_cyc {r d : Int} {n k : Nat} {x y : Fm} (h : CI r d n x k) : InC r x y ↔ y ∈ cyc r n x := by
  rw [mem_cyc]
  constructor
  · rintro ⟨i, rfl⟩
    exact ⟨i % n, Nat.mod_lt _ (by have := h.lt; omega), (nbn_mod h.ret i).symm⟩
  · rintro ⟨i, _, rfl⟩
    exact ⟨i, rfl⟩
/-- What SameCycle returns. -/
def SC (f f' : Fm) (s ok : Bool) : Prop := ∃ x M o y N o', RI f x M o ∧ RI f' y N o' ∧ ok = (o && o') ∧ (ok = false → s = false) ∧ (ok = true → (s = true ↔ InC (isqrt (discW f.1 f.2.1 f.2.2)) x y))
theorem SC.same {f f' : Fm} {s ok s' ok' : Bool} (h : SC f f' s ok) (h' : SC f f' s' ok') : s = s' ∧ ok = ok' := by
  obtain ⟨x, M, o, y, N, p, h1, h2, h3, h4, h5⟩ := h
  obtain ⟨x', M', o', y', N', p', k1, k2, k3, k4, k5⟩ := h'
  obtain ⟨rfl, rfl, rfl⟩ := h1.same k1
  obtain ⟨rfl, rfl, rfl⟩ := h2.same k2
  have e : ok = ok' := by rw [h3, k3]
  refine ⟨?_, e⟩
  subst e
  cases ok
  · rw [h4 rfl, k4 rfl]
  · rw [Bool.eq_iff_iff, h5 rfl, k5 rfl]
/-- Symmetry. -/
theorem SC.symm {f f' : Fm} {s ok s' ok' : Bool} (h : SC f f' s ok) (h' : SC f' f s' ok') : s = s' ∧ ok = ok' := by
  obtain ⟨x, M, o, y, N, p, h1, h2, h3, h4, h5⟩ := h
  obtain ⟨y', N', p', x', M', o', k2, k1, k3, k4, k5⟩ := h'
  obtain ⟨rfl, rfl, rfl⟩ := h1.same k1
  obtain ⟨rfl, rfl, rfl⟩ := h2.same k2
  have e : ok = ok' := by rw [h3, k3, Bool.and_comm]
  refine ⟨?_, e⟩
  subst e
  cases hok : ok
  · rw [h4 hok, k4 hok]
  · have ho : o = true ∧ p = true := by rw [hok] at h3; simpa using h3.symm
    obtain ⟨_, g1, g2, _, _, _⟩ := h1.good ho.1
    obtain ⟨_, g3, g4, _, _, _⟩ := h2.good ho.2
    obtain ⟨n, hn⟩ := ci_of g1 g2
    obtain ⟨m, hm⟩ := ci_of g3 g4
    rw [Bool.eq_iff_iff, h5 hok, k5 hok]
    have key : ∀ {r d r' d' : Int} {n m : Nat} {x y : Fm}, CI r d n x 0 → CI r' d' m y 0 → InC r x y → InC r' y x := by
      intro r d r' d' n m x y hx hy h
      have hd : d = d' := by
        obtain ⟨i, hi⟩ := h
        rw [← hx.gd.ds, ← hy.gd.ds, ← hi, nbn_disc]
      subst hd
      have hr : r = r' := by rw [← hx.gd.sq, ← hy.gd.sq]
      subst hr
      rw [inC_cyc hx] at h
      rw [inC_cyc hy]
      exact cyc_symm (by have := hx.lt; omega) hx.ret (by have := hy.lt; omega) hy.ret h
    exact ⟨key hn hm, key hm hn⟩
set_option maxHeartbeats 1000000 in
theorem implReduce_any (a b c : Int) (w : World) : Calls Try.prog 27 #[.agg #[.int .i64 a, .int .i64 b, .int .i64 c]] w fun e w' => (∃ (g : Fm) (N : Mt) (ok : Bool), e = .returned (.tuple #[.agg #[.int .i64 g.1, .int .i64 g.2.1, .int .i64 g.2.2], .agg #[.int .i64 N.1, .int .i64 N.2.1, .int .i64 N.2.2.1, .int .i64 N.2.2.2], .bool ok]) ∧ RI (a, b, c) g N ok) ∧ Below w.heap.size w w' := by
  by_cases hi : indB a b c = true
  · have h1 : Hid (∀ w0, Calls Try.prog 87 #[.agg #[.int .i64 a, .int .i64 b, .int .i64 c]] w0 fun en w' => en = .returned (.bool true) ∧ Below w0.heap.size w0 w') := Lib.hid fun w0 => by have h := isIndefinite_any a b c w0; rwa [hi] at h
    have h2 := Lib.hid fun w0 => toCycle_any _ _ a b c w0 (ind_gd hi) (ind_pos hi)
    have HI := Lib.hid hi
    clear hi
    go_enter Try.func27, Try.ntmps27
    go_wp2_with fail
    refine (h1.out _).mono ?_
    rintro e1 w1 ⟨rfl, hB1⟩
    obtain ⟨hC1, hF1⟩ := bcell hB1
    have hS1 := hB1.size
    (try simp at hS1)
    (try have hS1_w0 : w.heap.size < w1.heap.size := by omega)
    (try have hS1_w1 : w.heap.size + 1 < w1.heap.size := by omega)
    (try have hS1_w2 : w.heap.size + 1 + 1 < w1.heap.size := by omega)
    (try have hS1_w3 : w.heap.size + 1 + 1 + 1 < w1.heap.size := by omega)
    (try have hS1_w4 : w.heap.size + 1 + 1 + 1 + 1 < w1.heap.size := by omega)
    (try have hL1_w0 : w.heap.size ≤ w1.heap.size := by omega)
    (try have hL1_w1 : w.heap.size + 1 ≤ w1.heap.size := by omega)
    (try have hL1_w2 : w.heap.size + 1 + 1 ≤ w1.heap.size := by omega)
    (try have hL1_w3 : w.heap.size + 1 + 1 + 1 ≤ w1.heap.size := by omega)
    (try have hL1_w : w.heap.size ≤ w1.heap.size + 1 := by omega)
    (try have hM1_1 : w.heap.size < w1.heap.size + 1 := by omega)
    (try have hM1_2 : w.heap.size < w1.heap.size + 1 + 1 := by omega)
    (try have hM1_3 : w.heap.size < w1.heap.size + 1 + 1 + 1 := by omega)
    go_wp2_with fail
    refine (h2.out _).mono ?_
    rintro e2 x2 ⟨⟨⟨g1, g2, g3⟩, ⟨n1, n2, n3, n4⟩, ok, rfl, hR⟩, hB9⟩
    have HR := Lib.hid hR
    obtain ⟨hC9, hF9⟩ := bcell hB9
    have hz9 := hB9.size
    (try simp at hz9)
    have l1 : w.heap.size < x2.heap.size := by omega
    have l2 : w.heap.size + 1 < x2.heap.size := by omega
    have l3 : w.heap.size + 1 + 1 < x2.heap.size := by omega
    clear hR
    go_wp2_with fail
    (refine bodyPost_ret (v := .tuple #[.agg #[.int .i64 g1, .int .i64 g2, .int .i64 g3], .agg #[.int .i64 n1, .int .i64 n2, .int .i64 n3, .int .i64 n4], .bool ok]) (by go_light; simp [results, Try.results27, go_sem, *]) rfl ⟨⟨(g1, g2, g3), (n1, n2, n3, n4), ok, rfl, .inl ⟨HI.out, HR.out⟩⟩, ?_⟩; repeat (first | with_reducible exact Below.refl _ _ | with_reducible assumption | ((with_reducible refine blA ?_ ?_); (focus (first | omega | (simp <;> omega)))) | (with_reducible refine blD ?_) | (with_reducible refine blN ?_) | ((with_reducible refine blS ?_ ?_); (focus (first | omega | (simp <;> omega)))) | ((with_reducible refine blT (by assumption) ?_ ?_); (focus (first | omega | (simp <;> omega))))))
  · have hi' : indB a b c = false := by simpa using hi
    have h1 : Hid (∀ w0, Calls Try.prog 87 #[.agg #[.int .i64 a, .int .i64 b, .int .i64 c]] w0 fun en w' => en = .returned (.bool false) ∧ Below w0.heap.size w0 w') := Lib.hid fun w0 => by have h := isIndefinite_any a b c w0; rwa [hi'] at h
    have HI := Lib.hid hi'
    clear hi hi'
    go_enter Try.func27, Try.ntmps27
    go_wp2_with fail
    refine (h1.out _).mono ?_
    rintro e2 w2 ⟨rfl, hB2⟩
    obtain ⟨hC2, hF2⟩ := bcell hB2
    have hS2 := hB2.size
    (try simp at hS2)
    (try have hS2_w0 : w.heap.size < w2.heap.size := by omega)
    (try have hS2_w1 : w.heap.size + 1 < w2.heap.size := by omega)
    (try have hS2_w2 : w.heap.size + 1 + 1 < w2.heap.size := by omega)
    (try have hS2_w3 : w.heap.size + 1 + 1 + 1 < w2.heap.size := by omega)
    (try have hS2_w4 : w.heap.size + 1 + 1 + 1 + 1 < w2.heap.size := by omega)
    (try have hL2_w0 : w.heap.size ≤ w2.heap.size := by omega)
    (try have hL2_w1 : w.heap.size + 1 ≤ w2.heap.size := by omega)
    (try have hL2_w2 : w.heap.size + 1 + 1 ≤ w2.heap.size := by omega)
    (try have hL2_w3 : w.heap.size + 1 + 1 + 1 ≤ w2.heap.size := by omega)
    (try have hL2_w : w.heap.size ≤ w2.heap.size + 1 := by omega)
    (try have hM2_1 : w.heap.size < w2.heap.size + 1 := by omega)
    (try have hM2_2 : w.heap.size < w2.heap.size + 1 + 1 := by omega)
    (try have hM2_3 : w.heap.size < w2.heap.size + 1 + 1 + 1 := by omega)
    (try have hN2_1_00 : w1.heap.size < w2.heap.size := by omega)
    (try have hN2_1_01 : w1.heap.size < w2.heap.size + 1 := by omega)
    (try have hN2_1_02 : w1.heap.size < w2.heap.size + 1 + 1 := by omega)
    (try have hN2_1_10 : w1.heap.size + 1 < w2.heap.size := by omega)
    (try have hN2_1_11 : w1.heap.size + 1 < w2.heap.size + 1 := by omega)
    (try have hN2_1_12 : w1.heap.size + 1 < w2.heap.size + 1 + 1 := by omega)
    (try have hN2_1_20 : w1.heap.size + 1 + 1 < w2.heap.size := by omega)
    (try have hN2_1_21 : w1.heap.size + 1 + 1 < w2.heap.size + 1 := by omega)
    (try have hN2_1_22 : w1.heap.size + 1 + 1 < w2.heap.size + 1 + 1 := by omega)
    (try have hL2_1 : w1.heap.size ≤ w2.heap.size := by omega)
    (try have hS2_1 : w1.heap.size < w2.heap.size := by omega)
    (try have hS2_1' : w1.heap.size + 1 < w2.heap.size := by omega)
    go_wp2_with fail
    (refine bodyPost_ret (v := .tuple #[.agg #[.int .i64 0, .int .i64 0, .int .i64 0], .agg #[.int .i64 0, .int .i64 0, .int .i64 0, .int .i64 0], .bool false]) (by go_light; simp [results, Try.results27, go_sem, *]) rfl ⟨⟨(0, 0, 0), (0, 0, 0, 0), false, rfl, .inr ⟨HI.out, rfl, rfl, rfl⟩⟩, ?_⟩; repeat (first | with_reducible exact Below.refl _ _ | with_reducible assumption | ((with_reducible refine blA ?_ ?_); (focus (first | omega | (simp <;> omega)))) | (with_reducible refine blD ?_) | (with_reducible refine blN ?_) | ((with_reducible refine blS ?_ ?_); (focus (first | omega | (simp <;> omega)))) | ((with_reducible refine blT (by assumption) ?_ ?_); (focus (first | omega | (simp <;> omega))))))
set_option maxHeartbeats 1000000 in
theorem specReduce_any (a b c : Int) (w : World) : Calls Try.prog 28 #[.agg #[.int .i64 a, .int .i64 b, .int .i64 c]] w fun e w' => (∃ (g : Fm) (N : Mt) (ok : Bool), e = .returned (.tuple #[.agg #[.int .i64 g.1, .int .i64 g.2.1, .int .i64 g.2.2], .agg #[.int .i64 N.1, .int .i64 N.2.1, .int .i64 N.2.2.1, .int .i64 N.2.2.2], .bool ok]) ∧ RI (a, b, c) g N ok) ∧ Below w.heap.size w w' := by
  by_cases hi : indB a b c = true
  · have h1 : Hid (∀ w0, Calls Try.prog 73 #[.agg #[.int .i64 a, .int .i64 b, .int .i64 c]] w0 fun en w' => en = .returned (.bool true) ∧ Below w0.heap.size w0 w') := Lib.hid fun w0 => by have h := cyGood_any a b c w0; rwa [hi] at h
    have h2 := Lib.hid fun w0 => cyReduce_any _ _ a b c w0 (ind_gd hi) (ind_pos hi)
    have HI := Lib.hid hi
    clear hi
    go_enter Try.func28, Try.ntmps28
    go_wp2_with fail
    refine (h1.out _).mono ?_
    rintro e1 w1 ⟨rfl, hB1⟩
    obtain ⟨hC1, hF1⟩ := bcell hB1
    have hS1 := hB1.size
    (try simp at hS1)
    (try have hS1_w0 : w.heap.size < w1.heap.size := by omega)
    (try have hS1_w1 : w.heap.size + 1 < w1.heap.size := by omega)
    (try have hS1_w2 : w.heap.size + 1 + 1 < w1.heap.size := by omega)
    (try have hS1_w3 : w.heap.size + 1 + 1 + 1 < w1.heap.size := by omega)
    (try have hS1_w4 : w.heap.size + 1 + 1 + 1 + 1 < w1.heap.size := by omega)
    (try have hL1_w0 : w.heap.size ≤ w1.heap.size := by omega)
    (try have hL1_w1 : w.heap.size + 1 ≤ w1.heap.size := by omega)
    (try have hL1_w2 : w.heap.size + 1 + 1 ≤ w1.heap.size := by omega)
    (try have hL1_w3 : w.heap.size + 1 + 1 + 1 ≤ w1.heap.size := by omega)
    (try have hL1_w : w.heap.size ≤ w1.heap.size + 1 := by omega)
    (try have hM1_1 : w.heap.size < w1.heap.size + 1 := by omega)
    (try have hM1_2 : w.heap.size < w1.heap.size + 1 + 1 := by omega)
    (try have hM1_3 : w.heap.size < w1.heap.size + 1 + 1 + 1 := by omega)
    go_wp2_with fail
    refine (h2.out _).mono ?_
    rintro e2 x2 ⟨⟨⟨g1, g2, g3⟩, ⟨n1, n2, n3, n4⟩, ok, rfl, hR⟩, hB9⟩
    have HR := Lib.hid hR
    obtain ⟨hC9, hF9⟩ := bcell hB9
    have hz9 := hB9.size
    (try simp at hz9)
    have l1 : w.heap.size < x2.heap.size := by omega
    have l2 : w.heap.size + 1 < x2.heap.size := by omega
    have l3 : w.heap.size + 1 + 1 < x2.heap.size := by omega
    clear hR
    go_wp2_with fail
    (refine bodyPost_ret (v := .tuple #[.agg #[.int .i64 g1, .int .i64 g2, .int .i64 g3], .agg #[.int .i64 n1, .int .i64 n2, .int .i64 n3, .int .i64 n4], .bool ok]) (by go_light; simp [results, Try.results28, go_sem, *]) rfl ⟨⟨(g1, g2, g3), (n1, n2, n3, n4), ok, rfl, .inl ⟨HI.out, HR.out⟩⟩, ?_⟩; repeat (first | with_reducible exact Below.refl _ _ | with_reducible assumption | ((with_reducible refine blA ?_ ?_); (focus (first | omega | (simp <;> omega)))) | (with_reducible refine blD ?_) | (with_reducible refine blN ?_) | ((with_reducible refine blS ?_ ?_); (focus (first | omega | (simp <;> omega)))) | ((with_reducible refine blT (by assumption) ?_ ?_); (focus (first | omega | (simp <;> omega))))))
  · have hi' : indB a b c = false := by simpa using hi
    have h1 : Hid (∀ w0, Calls Try.prog 73 #[.agg #[.int .i64 a, .int .i64 b, .int .i64 c]] w0 fun en w' => en = .returned (.bool false) ∧ Below w0.heap.size w0 w') := Lib.hid fun w0 => by have h := cyGood_any a b c w0; rwa [hi'] at h
    have HI := Lib.hid hi'
    clear hi hi'
    go_enter Try.func28, Try.ntmps28
    go_wp2_with fail
    refine (h1.out _).mono ?_
    rintro e2 w2 ⟨rfl, hB2⟩
    obtain ⟨hC2, hF2⟩ := bcell hB2
    have hS2 := hB2.size
    (try simp at hS2)
    (try have hS2_w0 : w.heap.size < w2.heap.size := by omega)
    (try have hS2_w1 : w.heap.size + 1 < w2.heap.size := by omega)
    (try have hS2_w2 : w.heap.size + 1 + 1 < w2.heap.size := by omega)
    (try have hS2_w3 : w.heap.size + 1 + 1 + 1 < w2.heap.size := by omega)
    (try have hS2_w4 : w.heap.size + 1 + 1 + 1 + 1 < w2.heap.size := by omega)
    (try have hL2_w0 : w.heap.size ≤ w2.heap.size := by omega)
    (try have hL2_w1 : w.heap.size + 1 ≤ w2.heap.size := by omega)
    (try have hL2_w2 : w.heap.size + 1 + 1 ≤ w2.heap.size := by omega)
    (try have hL2_w3 : w.heap.size + 1 + 1 + 1 ≤ w2.heap.size := by omega)
    (try have hL2_w : w.heap.size ≤ w2.heap.size + 1 := by omega)
    (try have hM2_1 : w.heap.size < w2.heap.size + 1 := by omega)
    (try have hM2_2 : w.heap.size < w2.heap.size + 1 + 1 := by omega)
    (try have hM2_3 : w.heap.size < w2.heap.size + 1 + 1 + 1 := by omega)
    (try have hN2_1_00 : w1.heap.size < w2.heap.size := by omega)
    (try have hN2_1_01 : w1.heap.size < w2.heap.size + 1 := by omega)
    (try have hN2_1_02 : w1.heap.size < w2.heap.size + 1 + 1 := by omega)
    (try have hN2_1_10 : w1.heap.size + 1 < w2.heap.size := by omega)
    (try have hN2_1_11 : w1.heap.size + 1 < w2.heap.size + 1 := by omega)
    (try have hN2_1_12 : w1.heap.size + 1 < w2.heap.size + 1 + 1 := by omega)
    (try have hN2_1_20 : w1.heap.size + 1 + 1 < w2.heap.size := by omega)
    (try have hN2_1_21 : w1.heap.size + 1 + 1 < w2.heap.size + 1 := by omega)
    (try have hN2_1_22 : w1.heap.size + 1 + 1 < w2.heap.size + 1 + 1 := by omega)
    (try have hL2_1 : w1.heap.size ≤ w2.heap.size := by omega)
    (try have hS2_1 : w1.heap.size < w2.heap.size := by omega)
    (try have hS2_1' : w1.heap.size + 1 < w2.heap.size := by omega)
    go_wp2_with fail
    (refine bodyPost_ret (v := .tuple #[.agg #[.int .i64 0, .int .i64 0, .int .i64 0], .agg #[.int .i64 0, .int .i64 0, .int .i64 0, .int .i64 0], .bool false]) (by go_light; simp [results, Try.results28, go_sem, *]) rfl ⟨⟨(0, 0, 0), (0, 0, 0, 0), false, rfl, .inr ⟨HI.out, rfl, rfl, rfl⟩⟩, ?_⟩; repeat (first | with_reducible exact Below.refl _ _ | with_reducible assumption | ((with_reducible refine blA ?_ ?_); (focus (first | omega | (simp <;> omega)))) | (with_reducible refine blD ?_) | (with_reducible refine blN ?_) | ((with_reducible refine blS ?_ ?_); (focus (first | omega | (simp <;> omega)))) | ((with_reducible refine blT (by assumption) ?_ ?_); (focus (first | omega | (simp <;> omega))))))
set_option maxHeartbeats 4000000 in
theorem implSameCycle_any (a b c a' b' c' : Int) (w : World) : Calls Try.prog 22 #[.agg #[.int .i64 a, .int .i64 b, .int .i64 c], .agg #[.int .i64 a', .int .i64 b', .int .i64 c']] w fun e w' => (∃ s ok : Bool, e = .returned (.tuple #[.bool s, .bool ok]) ∧ SC (a, b, c) (a', b', c') s ok) ∧ Below w.heap.size w w' := by
  go_enter Try.func22, Try.ntmps22
  go_wp2_with fail
  refine (implReduce_any a b c _).mono ?_
  rintro e1 x1 ⟨⟨⟨g1, g2, g3⟩, ⟨m1, m2, m3, m4⟩, o1, rfl, hR1⟩, hB1⟩
  obtain ⟨hC1, hF1⟩ := bcell hB1
  have hz1 := hB1.size
  (try simp at hz1)
  have l1 : w.heap.size < x1.heap.size := by omega
  have l1' : w.heap.size + 1 < x1.heap.size := by omega
  have HR1 := Lib.hid hR1
  have HB1 := Lib.hid (show Below w.heap.size w x1 by repeat (first | with_reducible exact Below.refl _ _ | with_reducible assumption | ((with_reducible refine blA ?_ ?_); (focus (first | omega | (simp <;> omega)))) | (with_reducible refine blD ?_) | (with_reducible refine blN ?_) | ((with_reducible refine blS ?_ ?_); (focus (first | omega | (simp <;> omega)))) | ((with_reducible refine blT (by assumption) ?_ ?_); (focus (first | omega | (simp <;> omega))))))
  clear hR1
  go_wp2_with fail
  refine (implReduce_any a' b' c' _).mono ?_
  rintro e2 x2 ⟨⟨⟨h1, h2, h3⟩, ⟨n1, n2, n3, n4⟩, o2, rfl, hR2⟩, hB2⟩
  obtain ⟨hC2, hF2⟩ := bcell hB2
  have hz2 := hB2.size
  (try simp at hz2)
  have HR2 := Lib.hid hR2
  have HB2 := Lib.hid (show Below w.heap.size w x2 by have hX := HB1.out; repeat (first | with_reducible exact Below.refl _ _ | with_reducible assumption | ((with_reducible refine blA ?_ ?_); (focus (first | omega | (simp <;> omega)))) | (with_reducible refine blD ?_) | (with_reducible refine blN ?_) | ((with_reducible refine blS ?_ ?_); (focus (first | omega | (simp <;> omega)))) | ((with_reducible refine blT (by assumption) ?_ ?_); (focus (first | omega | (simp <;> omega))))))
  have k1 : x1.heap.size < x2.heap.size := by omega
  have k2 : x1.heap.size + 1 < x2.heap.size := by omega
  have k3 := HB2.out.size
  have c6 : ∀ o, x2.cell? ⟨x1.heap.size, o, none⟩ = (#[.int .i64 g1, .int .i64 g2, .int .i64 g3] : Array Value)[o]? := by (intro o; (repeat (first | ((with_reducible refine (cell_alloc_old _ _ _ _ ?_).trans ?_); (focus (first | omega | (simp <;> omega)))) | ((with_reducible refine (bC (by assumption) ?_).trans ?_); (focus (first | omega | (simp <;> omega)))) | ((with_reducible refine (bG (by assumption) ?_).trans ?_); (focus (first | omega | (simp <;> omega)))))); simp [go_sem])
  have k4 : x1.heap.size < x2.heap.size + 1 + 1 := by omega
  have k5 : x1.heap.size < x2.heap.size + 1 := by omega
  clear hC2
  clear hR2 hB1 hC1 hF1 hB2 hF2
  cases o1 with
  | false =>
    go_wp2_with fail
    refine bodyPost_ret (v := .tuple #[.bool false, .bool false]) (by go_light; simp [results, Try.results22, go_sem]) rfl ?_
    refine ⟨⟨false, false, rfl, _, _, _, _, _, _, HR1.out, HR2.out, rfl, fun _ => rfl, fun h => by cases h⟩, ?_⟩
    have hX := HB2.out
    repeat (first | with_reducible exact Below.refl _ _ | with_reducible assumption | ((with_reducible refine blA ?_ ?_); (focus (first | omega | (simp <;> omega)))) | (with_reducible refine blD ?_) | (with_reducible refine blN ?_) | ((with_reducible refine blS ?_ ?_); (focus (first | omega | (simp <;> omega)))) | ((with_reducible refine blT (by assumption) ?_ ?_); (focus (first | omega | (simp <;> omega)))))
  | true =>
    cases o2 with
    | false =>
      go_wp2_with fail
      refine bodyPost_ret (v := .tuple #[.bool false, .bool false]) (by go_light; simp [results, Try.results22, go_sem]) rfl ?_
      refine ⟨⟨false, false, rfl, _, _, _, _, _, _, HR1.out, HR2.out, rfl, fun _ => rfl, fun h => by cases h⟩, ?_⟩
      have hX := HB2.out
      repeat (first | with_reducible exact Below.refl _ _ | with_reducible assumption | ((with_reducible refine blA ?_ ?_); (focus (first | omega | (simp <;> omega)))) | (with_reducible refine blD ?_) | (with_reducible refine blN ?_) | ((with_reducible refine blS ?_ ?_); (focus (first | omega | (simp <;> omega)))) | ((with_reducible refine blT (by assumption) ?_ ?_); (focus (first | omega | (simp <;> omega)))))
    | true =>
      obtain ⟨_, q1, q2, _, _, _⟩ := HR1.out.good rfl
      obtain ⟨n, hn⟩ := ci_of q1 q2
      have hcyc := Lib.hid fun w0 => cycle_any _ _ n g1 g2 g3 w0 hn
      have HN := Lib.hid hn
      have hlen : Hid ((cyc (isqrt (discW a b c)) n (g1, g2, g3)).length ≤ 1000000) := Lib.hid (by rw [cyc_length]; have := HN.out.n2; omega)
      clear q1 q2 hn
      obtain ⟨L, hL⟩ : ∃ L, cyc (isqrt (discW a b c)) n (g1, g2, g3) = L := ⟨_, rfl⟩
      rw [hL] at hlen
      simp only [hL] at hcyc
      have HL := Lib.hid hL
      clear hL
      go_wp2_with fail
      refine region_mix 4 [0, 2] [(false, 1), (false, 3)] (by kernel_rfl) (by kernel_rfl) (by kernel_rfl) ?_
      apply Exists.intro
      refine ⟨fun w0 hw0 => ?_, ?_⟩
      · obtain ⟨hC0, hF0⟩ := bcell hw0
        have hS0 := hw0.size
        (try simp at hS0)
        (try have hS0_w0 : w.heap.size < w0.heap.size := by omega)
        (try have hS0_w1 : w.heap.size + 1 < w0.heap.size := by omega)
        (try have hS0_w2 : w.heap.size + 1 + 1 < w0.heap.size := by omega)
        (try have hS0_w3 : w.heap.size + 1 + 1 + 1 < w0.heap.size := by omega)
        (try have hS0_w4 : w.heap.size + 1 + 1 + 1 + 1 < w0.heap.size := by omega)
        (try have hL0_w0 : w.heap.size ≤ w0.heap.size := by omega)
        (try have hL0_w1 : w.heap.size + 1 ≤ w0.heap.size := by omega)
        (try have hL0_w2 : w.heap.size + 1 + 1 ≤ w0.heap.size := by omega)
        (try have hL0_w3 : w.heap.size + 1 + 1 + 1 ≤ w0.heap.size := by omega)
        (try have hL0_w : w.heap.size ≤ w0.heap.size + 1 := by omega)
        (try have hM0_1 : w.heap.size < w0.heap.size + 1 := by omega)
        (try have hM0_2 : w.heap.size < w0.heap.size + 1 + 1 := by omega)
        (try have hM0_3 : w.heap.size < w0.heap.size + 1 + 1 + 1 := by omega)
        have hS0x : x1.heap.size < w0.heap.size := (by omega); have hS0y : x2.heap.size < w0.heap.size := (by omega)
        simp only [List.filterMap_cons, List.filterMap_nil, List.getElem?_cons_zero, List.getElem?_cons_succ]
        show wpQuiet _ _ _ _ [_, _] _
        repeat (first | go_big_quiet_skip | (go_big_quiet_want; go_big_quiet_op; first | go_big_quiet_on | (apply Exists.intro; refine ⟨fun _ => ?_, ?_⟩; (focus (fail)); go_big_quiet_on)))
        refine wpQuiet_nil ?_
        rfl
      intro W hW hWz
      simp only [List.filterMap_cons, List.filterMap_nil, List.getElem?_cons_zero, List.getElem?_cons_succ, Option.map_some, List.drop_succ_cons, List.drop_zero]
      show effW _ _ _ _ [(false, _), (false, _)] _ _
      refine effM_of fun wa hBa => ?_
      have hza := hBa.size
      try simp at hza
      go_wp2_with fail
      refine (hcyc.out _).mono ?_
      rintro e3 wb ⟨⟨v, rfl, hr⟩, hBb⟩
      obtain ⟨va, vc, hv, hvc, _, hsee⟩ := hr.sees c3_len
      subst hv
      have HS := Lib.hid hsee
      have hzb := hBb.size
      clear hsee hr hvc
      go_wp2
      refine effQ_of rfl (by repeat (first | with_reducible exact Below.refl _ _ | with_reducible assumption | ((with_reducible refine blA ?_ ?_); (focus (first | omega | (simp <;> omega)))) | (with_reducible refine blD ?_) | (with_reducible refine blN ?_) | ((with_reducible refine blS ?_ ?_); (focus (first | omega | (simp <;> omega)))) | ((with_reducible refine blT (by assumption) ?_ ?_); (focus (first | omega | (simp <;> omega)))))) ?_
      refine effM_of fun wc hBc => ?_
      have hzc := hBc.size
      try simp at hzc
      go_wp2_with fail
      refine (hasForm_any L (h1, h2, h3) va vc _ _ (HS.out.below hBc) hlen.out).mono ?_
      rintro e4 wd ⟨rfl, hBd⟩
      have hzd := hBd.size
      go_wp2
      refine effQ_of rfl (by repeat (first | with_reducible exact Below.refl _ _ | with_reducible assumption | ((with_reducible refine blA ?_ ?_); (focus (first | omega | (simp <;> omega)))) | (with_reducible refine blD ?_) | (with_reducible refine blN ?_) | ((with_reducible refine blS ?_ ?_); (focus (first | omega | (simp <;> omega)))) | ((with_reducible refine blT (by assumption) ?_ ?_); (focus (first | omega | (simp <;> omega)))))) ?_
      intro wl hwl
      have hBl := past_below hwl
      clear hwl
      go_wp2_with fail
      refine bodyPost_ret (v := .tuple #[.bool (decide ((h1, h2, h3) ∈ L)), .bool true]) (by go_light; simp [results, Try.results22, go_sem]) rfl ?_
      refine ⟨⟨decide ((h1, h2, h3) ∈ L), true, rfl, _, _, _, _, _, _, HR1.out, HR2.out, rfl, (fun h => by cases h), fun _ => ?_⟩, ?_⟩
      · rw [inC_cyc HN.out]
        show _ ↔ _ ∈ cyc (isqrt (discW a b c)) n (g1, g2, g3)
        rw [HL.out]
        simp
      · have hX := HB2.out
        (try simp at hWz)
        have hY : Below x2.heap.size x2 wl := by repeat (first | with_reducible exact Below.refl _ _ | with_reducible assumption | ((with_reducible refine blA ?_ ?_); (focus (first | omega | (simp <;> omega)))) | (with_reducible refine blD ?_) | (with_reducible refine blN ?_) | ((with_reducible refine blS ?_ ?_); (focus (first | omega | (simp <;> omega)))) | ((with_reducible refine blT (by assumption) ?_ ?_); (focus (first | omega | (simp <;> omega)))))
        exact hX.trans (hY.mono hX.size)
end Go.Proofs.Ytemnkfigjpphgaa

/-
  The reference's comparison of cycles, walked.
-/
namespace Go.Proofs.Ytemnkfigjpphgaa
open Go.RowKit
attribute [local simp, local go_sem] past_cell past_frozen past_tape
theorem Rd.total {r d : Int} : ∀ (n : Nat) (f : Fm) (M : Mt), Gd r d f → cMs r f ≤ n → ∃ g N ok, Rd r f M g N ok := by
  intro n
  induction n with
  | zero =>
    intro f M h hn
    cases hc : cyB r f with
    | true => exact ⟨_, _, _, .stop hc⟩
    | false => unfold cMs at hn; rw [hc] at hn; simp at hn
  | succ n ih =>
    intro f M h hn
    cases hc : cyB r f with
    | true => exact ⟨_, _, _, .stop hc⟩
    | false =>
      by_cases hm : mle 1000000 (mm M (nmg r f))
      · have := cMs_less h.root hc
        obtain ⟨g, N, ok, hR⟩ := ih (nbg r f) (mm M (nmg r f)) h.next.1 (by omega)
        exact ⟨g, N, ok, .next hc hm hR⟩
      · exact ⟨_, _, _, .bad hc hm⟩
theorem RI.total (f : Fm) : ∃ g N ok, RI f g N ok := by
  cases h : indB f.1 f.2.1 f.2.2 with
  | true =>
    obtain ⟨g, N, ok, hR⟩ := Rd.total _ f mI (ind_gd h) (Nat.le_refl _)
    exact ⟨g, N, ok, .inl ⟨h, hR⟩⟩
  | false => exact ⟨_, _, _, .inr ⟨h, rfl, rfl, rfl⟩⟩
theorem sc_left {f f' : Fm} (h : indB f.1 f.2.1 f.2.2 = false) : SC f f' false false := by
  obtain ⟨y, N, p, h2⟩ := RI.total f'
  exact ⟨_, _, _, _, _, _, .inr ⟨h, rfl, rfl, rfl⟩, h2, by simp, fun _ => rfl, fun h => by cases h⟩
theorem sc_right {f f' : Fm} (h : indB f'.1 f'.2.1 f'.2.2 = false) : SC f f' false false := by
  obtain ⟨y, N, p, h2⟩ := RI.total f
  exact ⟨_, _, _, _, _, _, h2, .inr ⟨h, rfl, rfl, rfl⟩, by simp, fun _ => rfl, fun h => by cases h⟩
set_option maxRecDepth 100000 in
set_option maxHeartbeats 8000000 in
theorem specSameCycle_any (a b c a' b' c' : Int) (w : World) : Calls Try.prog 23 #[.agg #[.int .i64 a, .int .i64 b, .int .i64 c], .agg #[.int .i64 a', .int .i64 b', .int .i64 c']] w fun e w' => (∃ s ok : Bool, e = .returned (.tuple #[.bool s, .bool ok]) ∧ SC (a, b, c) (a', b', c') s ok) ∧ Below w.heap.size w w' := by
  have hgood : Hid (∀ w0, Calls Try.prog 73 #[.agg #[.int .i64 a, .int .i64 b, .int .i64 c]] w0 fun en w' => en = .returned (.bool (indB a b c)) ∧ Below w0.heap.size w0 w') := Lib.hid fun w0 => cyGood_any a b c w0
  have hgood' : Hid (∀ w0, Calls Try.prog 73 #[.agg #[.int .i64 a', .int .i64 b', .int .i64 c']] w0 fun en w' => en = .returned (.bool (indB a' b' c')) ∧ Below w0.heap.size w0 w') := Lib.hid fun w0 => cyGood_any a' b' c' w0
  cases hi : indB a b c with
  | false =>
    have HI := Lib.hid hi
    rw [hi] at hgood
    clear hi
    go_enter Try.func23, Try.ntmps23
    go_wp2_with fail
    refine (hgood.out _).mono ?_
    rintro e1 w1 ⟨rfl, hB1⟩
    obtain ⟨hC1, hF1⟩ := bcell hB1
    have hS1 := hB1.size
    (try simp at hS1)
    (try have hS1_w0 : w.heap.size < w1.heap.size := by omega)
    (try have hS1_w1 : w.heap.size + 1 < w1.heap.size := by omega)
    (try have hS1_w2 : w.heap.size + 1 + 1 < w1.heap.size := by omega)
    (try have hS1_w3 : w.heap.size + 1 + 1 + 1 < w1.heap.size := by omega)
    (try have hS1_w4 : w.heap.size + 1 + 1 + 1 + 1 < w1.heap.size := by omega)
    (try have hL1_w0 : w.heap.size ≤ w1.heap.size := by omega)
    (try have hL1_w1 : w.heap.size + 1 ≤ w1.heap.size := by omega)
    (try have hL1_w2 : w.heap.size + 1 + 1 ≤ w1.heap.size := by omega)
    (try have hL1_w3 : w.heap.size + 1 + 1 + 1 ≤ w1.heap.size := by omega)
    (try have hL1_w : w.heap.size ≤ w1.heap.size + 1 := by omega)
    (try have hM1_1 : w.heap.size < w1.heap.size + 1 := by omega)
    (try have hM1_2 : w.heap.size < w1.heap.size + 1 + 1 := by omega)
    (try have hM1_3 : w.heap.size < w1.heap.size + 1 + 1 + 1 := by omega)
    go_wp2_with fail
    refine bodyPost_ret (v := .tuple #[.bool false, .bool false]) (by go_light; simp [results, Try.results23, go_sem]) rfl ?_
    refine ⟨⟨false, false, rfl, sc_left HI.out⟩, ?_⟩
    repeat (first | with_reducible exact Below.refl _ _ | with_reducible assumption | ((with_reducible refine blA ?_ ?_); (focus (first | omega | (simp <;> omega)))) | (with_reducible refine blD ?_) | (with_reducible refine blN ?_) | ((with_reducible refine blS ?_ ?_); (focus (first | omega | (simp <;> omega)))) | ((with_reducible refine blT (by assumption) ?_ ?_); (focus (first | omega | (simp <;> omega)))))
  | true =>
  cases hi' : indB a' b' c' with
  | false =>
    have HI := Lib.hid hi'
    rw [hi] at hgood
    rw [hi'] at hgood'
    clear hi hi'
    go_enter Try.func23, Try.ntmps23
    go_wp2_with fail
    refine (hgood.out _).mono ?_
    rintro e2 w2 ⟨rfl, hB2⟩
    obtain ⟨hC2, hF2⟩ := bcell hB2
    have hS2 := hB2.size
    (try simp at hS2)
    (try have hS2_w0 : w.heap.size < w2.heap.size := by omega)
    (try have hS2_w1 : w.heap.size + 1 < w2.heap.size := by omega)
    (try have hS2_w2 : w.heap.size + 1 + 1 < w2.heap.size := by omega)
    (try have hS2_w3 : w.heap.size + 1 + 1 + 1 < w2.heap.size := by omega)
    (try have hS2_w4 : w.heap.size + 1 + 1 + 1 + 1 < w2.heap.size := by omega)
    (try have hL2_w0 : w.heap.size ≤ w2.heap.size := by omega)
    (try have hL2_w1 : w.heap.size + 1 ≤ w2.heap.size := by omega)
    (try have hL2_w2 : w.heap.size + 1 + 1 ≤ w2.heap.size := by omega)
    (try have hL2_w3 : w.heap.size + 1 + 1 + 1 ≤ w2.heap.size := by omega)
    (try have hL2_w : w.heap.size ≤ w2.heap.size + 1 := by omega)
    (try have hM2_1 : w.heap.size < w2.heap.size + 1 := by omega)
    (try have hM2_2 : w.heap.size < w2.heap.size + 1 + 1 := by omega)
    (try have hM2_3 : w.heap.size < w2.heap.size + 1 + 1 + 1 := by omega)
    (try have hN2_1_00 : w1.heap.size < w2.heap.size := by omega)
    (try have hN2_1_01 : w1.heap.size < w2.heap.size + 1 := by omega)
    (try have hN2_1_02 : w1.heap.size < w2.heap.size + 1 + 1 := by omega)
    (try have hN2_1_10 : w1.heap.size + 1 < w2.heap.size := by omega)
    (try have hN2_1_11 : w1.heap.size + 1 < w2.heap.size + 1 := by omega)
    (try have hN2_1_12 : w1.heap.size + 1 < w2.heap.size + 1 + 1 := by omega)
    (try have hN2_1_20 : w1.heap.size + 1 + 1 < w2.heap.size := by omega)
    (try have hN2_1_21 : w1.heap.size + 1 + 1 < w2.heap.size + 1 := by omega)
    (try have hN2_1_22 : w1.heap.size + 1 + 1 < w2.heap.size + 1 + 1 := by omega)
    (try have hL2_1 : w1.heap.size ≤ w2.heap.size := by omega)
    (try have hS2_1 : w1.heap.size < w2.heap.size := by omega)
    (try have hS2_1' : w1.heap.size + 1 < w2.heap.size := by omega)
    go_wp2_with fail
    refine (hgood'.out _).mono ?_
    rintro e3 w3 ⟨rfl, hB3⟩
    obtain ⟨hC3, hF3⟩ := bcell hB3
    have hS3 := hB3.size
    (try simp at hS3)
    (try have hS3_w0 : w.heap.size < w3.heap.size := by omega)
    (try have hS3_w1 : w.heap.size + 1 < w3.heap.size := by omega)
    (try have hS3_w2 : w.heap.size + 1 + 1 < w3.heap.size := by omega)
    (try have hS3_w3 : w.heap.size + 1 + 1 + 1 < w3.heap.size := by omega)
    (try have hS3_w4 : w.heap.size + 1 + 1 + 1 + 1 < w3.heap.size := by omega)
    (try have hL3_w0 : w.heap.size ≤ w3.heap.size := by omega)
    (try have hL3_w1 : w.heap.size + 1 ≤ w3.heap.size := by omega)
    (try have hL3_w2 : w.heap.size + 1 + 1 ≤ w3.heap.size := by omega)
    (try have hL3_w3 : w.heap.size + 1 + 1 + 1 ≤ w3.heap.size := by omega)
    (try have hL3_w : w.heap.size ≤ w3.heap.size + 1 := by omega)
    (try have hM3_1 : w.heap.size < w3.heap.size + 1 := by omega)
    (try have hM3_2 : w.heap.size < w3.heap.size + 1 + 1 := by omega)
    (try have hM3_3 : w.heap.size < w3.heap.size + 1 + 1 + 1 := by omega)
    (try have hN3_1_00 : w1.heap.size < w3.heap.size := by omega)
    (try have hN3_1_01 : w1.heap.size < w3.heap.size + 1 := by omega)
    (try have hN3_1_02 : w1.heap.size < w3.heap.size + 1 + 1 := by omega)
    (try have hN3_1_10 : w1.heap.size + 1 < w3.heap.size := by omega)
    (try have hN3_1_11 : w1.heap.size + 1 < w3.heap.size + 1 := by omega)
    (try have hN3_1_12 : w1.heap.size + 1 < w3.heap.size + 1 + 1 := by omega)
    (try have hN3_1_20 : w1.heap.size + 1 + 1 < w3.heap.size := by omega)
    (try have hN3_1_21 : w1.heap.size + 1 + 1 < w3.heap.size + 1 := by omega)
    (try have hN3_1_22 : w1.heap.size + 1 + 1 < w3.heap.size + 1 + 1 := by omega)
    (try have hN3_2_00 : w2.heap.size < w3.heap.size := by omega)
    (try have hN3_2_01 : w2.heap.size < w3.heap.size + 1 := by omega)
    (try have hN3_2_02 : w2.heap.size < w3.heap.size + 1 + 1 := by omega)
    (try have hN3_2_10 : w2.heap.size + 1 < w3.heap.size := by omega)
    (try have hN3_2_11 : w2.heap.size + 1 < w3.heap.size + 1 := by omega)
    (try have hN3_2_12 : w2.heap.size + 1 < w3.heap.size + 1 + 1 := by omega)
    (try have hN3_2_20 : w2.heap.size + 1 + 1 < w3.heap.size := by omega)
    (try have hN3_2_21 : w2.heap.size + 1 + 1 < w3.heap.size + 1 := by omega)
    (try have hN3_2_22 : w2.heap.size + 1 + 1 < w3.heap.size + 1 + 1 := by omega)
    (try have hL3_1 : w1.heap.size ≤ w3.heap.size := by omega)
    (try have hL3_2 : w2.heap.size ≤ w3.heap.size := by omega)
    (try have hS3_1 : w1.heap.size < w3.heap.size := by omega)
    (try have hS3_1' : w1.heap.size + 1 < w3.heap.size := by omega)
    (try have hS3_2 : w2.heap.size < w3.heap.size := by omega)
    (try have hS3_2' : w2.heap.size + 1 < w3.heap.size := by omega)
    go_wp2_with fail
    refine bodyPost_ret (v := .tuple #[.bool false, .bool false]) (by go_light; simp [results, Try.results23, go_sem]) rfl ?_
    refine ⟨⟨false, false, rfl, sc_right HI.out⟩, ?_⟩
    repeat (first | with_reducible exact Below.refl _ _ | with_reducible assumption | ((with_reducible refine blA ?_ ?_); (focus (first | omega | (simp <;> omega)))) | (with_reducible refine blD ?_) | (with_reducible refine blN ?_) | ((with_reducible refine blS ?_ ?_); (focus (first | omega | (simp <;> omega)))) | ((with_reducible refine blT (by assumption) ?_ ?_); (focus (first | omega | (simp <;> omega)))))
  | true =>
  have HI := Lib.hid hi
  have HI' := Lib.hid hi'
  rw [hi] at hgood
  rw [hi'] at hgood'
  have hred := Lib.hid fun w0 => cyReduce_any _ _ a b c w0 (ind_gd hi) (ind_pos hi)
  have hred' := Lib.hid fun w0 => cyReduce_any _ _ a' b' c' w0 (ind_gd hi') (ind_pos hi')
  clear hi hi'
  go_enter Try.func23, Try.ntmps23
  go_wp2_with fail
  refine (hgood.out _).mono ?_
  rintro e8 y1 ⟨rfl, hB8⟩
  obtain ⟨hC8, hF8⟩ := bcell hB8
  have hz8 := hB8.size
  (try simp at hz8)
  have q1 : w.heap.size < y1.heap.size := by omega
  have q2 : w.heap.size + 1 < y1.heap.size := by omega
  go_wp2_with fail
  refine (hgood'.out _).mono ?_
  rintro e9 y2 ⟨rfl, hB9⟩
  obtain ⟨hC9, hF9⟩ := bcell hB9
  have hz9 := hB9.size
  have q3 : w.heap.size < y2.heap.size := by omega
  have q4 : w.heap.size + 1 < y2.heap.size := by omega
  have r0 : ∀ o, y2.cell? ⟨w.heap.size, o, none⟩ = (#[.int .i64 a, .int .i64 b, .int .i64 c] : Array Value)[o]? := by (intro o; (repeat (first | ((with_reducible refine (cell_alloc_old _ _ _ _ ?_).trans ?_); (focus (first | omega | (simp <;> omega)))) | ((with_reducible refine (bC (by assumption) ?_).trans ?_); (focus (first | omega | (simp <;> omega)))) | ((with_reducible refine (bG (by assumption) ?_).trans ?_); (focus (first | omega | (simp <;> omega)))))); simp [go_sem])
  have r1 : ∀ o, y2.cell? ⟨w.heap.size + 1, o, none⟩ = (#[.int .i64 a', .int .i64 b', .int .i64 c'] : Array Value)[o]? := by (intro o; (repeat (first | ((with_reducible refine (cell_alloc_old _ _ _ _ ?_).trans ?_); (focus (first | omega | (simp <;> omega)))) | ((with_reducible refine (bC (by assumption) ?_).trans ?_); (focus (first | omega | (simp <;> omega)))) | ((with_reducible refine (bG (by assumption) ?_).trans ?_); (focus (first | omega | (simp <;> omega)))))); simp [go_sem])
  have HY2 := Lib.hid (show Below w.heap.size w y2 by repeat (first | with_reducible exact Below.refl _ _ | with_reducible assumption | ((with_reducible refine blA ?_ ?_); (focus (first | omega | (simp <;> omega)))) | (with_reducible refine blD ?_) | (with_reducible refine blN ?_) | ((with_reducible refine blS ?_ ?_); (focus (first | omega | (simp <;> omega)))) | ((with_reducible refine blT (by assumption) ?_ ?_); (focus (first | omega | (simp <;> omega))))))
  clear hC8 hF8 hC9 hF9 hB8 hB9
  go_wp2_with fail
  refine (hred.out _).mono ?_
  rintro e1 x1 ⟨⟨⟨g1, g2, g3⟩, ⟨m1, m2, m3, m4⟩, o1, rfl, hR1⟩, hB1⟩
  obtain ⟨hC1, hF1⟩ := bcell hB1
  have hz1 := hB1.size
  (try simp at hz1)
  have l1 : w.heap.size < x1.heap.size := by omega
  have l1' : w.heap.size + 1 < x1.heap.size := by omega
  have HR1 := Lib.hid (show RI (a, b, c) (g1, g2, g3) (m1, m2, m3, m4) o1 from .inl ⟨HI.out, hR1⟩)
  have HB1 := Lib.hid (show Below w.heap.size w x1 by have hX := HY2.out; repeat (first | with_reducible exact Below.refl _ _ | with_reducible assumption | ((with_reducible refine blA ?_ ?_); (focus (first | omega | (simp <;> omega)))) | (with_reducible refine blD ?_) | (with_reducible refine blN ?_) | ((with_reducible refine blS ?_ ?_); (focus (first | omega | (simp <;> omega)))) | ((with_reducible refine blT (by assumption) ?_ ?_); (focus (first | omega | (simp <;> omega))))))
  clear hR1
  go_wp2_with fail
  refine (hred'.out _).mono ?_
  rintro e2 x2 ⟨⟨⟨h1, h2, h3⟩, ⟨n1, n2, n3, n4⟩, o2, rfl, hR2⟩, hB2⟩
  obtain ⟨hC2, hF2⟩ := bcell hB2
  have hz2 := hB2.size
  (try simp at hz2)
  have HR2 := Lib.hid (show RI (a', b', c') (h1, h2, h3) (n1, n2, n3, n4) o2 from .inl ⟨HI'.out, hR2⟩)
  have HB2 := Lib.hid (show Below w.heap.size w x2 by have hX := HB1.out; repeat (first | with_reducible exact Below.refl _ _ | with_reducible assumption | ((with_reducible refine blA ?_ ?_); (focus (first | omega | (simp <;> omega)))) | (with_reducible refine blD ?_) | (with_reducible refine blN ?_) | ((with_reducible refine blS ?_ ?_); (focus (first | omega | (simp <;> omega)))) | ((with_reducible refine blT (by assumption) ?_ ?_); (focus (first | omega | (simp <;> omega))))))
  have k1 : x1.heap.size < x2.heap.size := by omega
  have k2 : x1.heap.size + 1 < x2.heap.size := by omega
  have k3 := HB2.out.size
  have r3 : ∀ o, x2.cell? ⟨w.heap.size, o, none⟩ = (#[.int .i64 a, .int .i64 b, .int .i64 c] : Array Value)[o]? := fun o => by rw [hC2 _ _ (by simp; omega), cell_alloc_old _ _ _ _ (by simp; omega), cell_alloc_old _ _ _ _ (by omega), hC1 _ _ (by omega)]; exact r0 o
  have r4 : ∀ o, x2.cell? ⟨w.heap.size + 1, o, none⟩ = (#[.int .i64 a', .int .i64 b', .int .i64 c'] : Array Value)[o]? := fun o => by rw [hC2 _ _ (by simp; omega), cell_alloc_old _ _ _ _ (by simp; omega), cell_alloc_old _ _ _ _ (by omega), hC1 _ _ (by omega)]; exact r1 o
  have c6 : ∀ o, x2.cell? ⟨x1.heap.size, o, none⟩ = (#[.int .i64 g1, .int .i64 g2, .int .i64 g3] : Array Value)[o]? := by (intro o; (repeat (first | ((with_reducible refine (cell_alloc_old _ _ _ _ ?_).trans ?_); (focus (first | omega | (simp <;> omega)))) | ((with_reducible refine (bC (by assumption) ?_).trans ?_); (focus (first | omega | (simp <;> omega)))) | ((with_reducible refine (bG (by assumption) ?_).trans ?_); (focus (first | omega | (simp <;> omega)))))); simp [go_sem])
  have k4 : x1.heap.size < x2.heap.size + 1 + 1 := by omega
  have k5 : x1.heap.size < x2.heap.size + 1 := by omega
  have s1 : w.heap.size < x2.heap.size := by omega
  have s2 : w.heap.size + 1 < x2.heap.size := by omega
  have s3 : w.heap.size < x2.heap.size + 1 + 1 := by omega
  have s4 : w.heap.size < x2.heap.size + 1 := by omega
  clear hC2
  clear hR2 hB1 hC1 hF1 hB2 hF2
  cases o1 with
  | false =>
    go_wp2_with fail
    refine bodyPost_ret (v := .tuple #[.bool false, .bool false]) (by go_light; simp [results, Try.results23, go_sem]) rfl ?_
    refine ⟨⟨false, false, rfl, _, _, _, _, _, _, HR1.out, HR2.out, rfl, fun _ => rfl, fun h => by cases h⟩, ?_⟩
    have hX := HB2.out
    repeat (first | with_reducible exact Below.refl _ _ | with_reducible assumption | ((with_reducible refine blA ?_ ?_); (focus (first | omega | (simp <;> omega)))) | (with_reducible refine blD ?_) | (with_reducible refine blN ?_) | ((with_reducible refine blS ?_ ?_); (focus (first | omega | (simp <;> omega)))) | ((with_reducible refine blT (by assumption) ?_ ?_); (focus (first | omega | (simp <;> omega)))))
  | true =>
    cases o2 with
    | false =>
      go_wp2_with fail
      refine bodyPost_ret (v := .tuple #[.bool false, .bool false]) (by go_light; simp [results, Try.results23, go_sem]) rfl ?_
      refine ⟨⟨false, false, rfl, _, _, _, _, _, _, HR1.out, HR2.out, rfl, fun _ => rfl, fun h => by cases h⟩, ?_⟩
      have hX := HB2.out
      repeat (first | with_reducible exact Below.refl _ _ | with_reducible assumption | ((with_reducible refine blA ?_ ?_); (focus (first | omega | (simp <;> omega)))) | (with_reducible refine blD ?_) | (with_reducible refine blN ?_) | ((with_reducible refine blS ?_ ?_); (focus (first | omega | (simp <;> omega)))) | ((with_reducible refine blT (by assumption) ?_ ?_); (focus (first | omega | (simp <;> omega)))))
    | true =>
      obtain ⟨_, q1, q2, _, _, _⟩ := HR1.out.good rfl
      obtain ⟨n, hn⟩ := ci_of q1 q2
      have hcyc := Lib.hid fun w0 => cyCycle_any _ _ n g1 g2 g3 w0 hn
      have HN := Lib.hid hn
      have hlen : Hid ((cyc (isqrt (discW a b c)) n (g1, g2, g3)).length ≤ 1000000) := Lib.hid (by rw [cyc_length]; have := HN.out.n2; omega)
      clear q1 q2 hn
      obtain ⟨L, hL⟩ : ∃ L, cyc (isqrt (discW a b c)) n (g1, g2, g3) = L := ⟨_, rfl⟩
      rw [hL] at hlen
      simp only [hL] at hcyc
      have HL := Lib.hid hL
      clear hL
      by_cases hdd : discW a b c = discW a' b' c'
      rotate_left
      · have HD : Hid (¬ InC (isqrt (discW a b c)) (g1, g2, g3) (h1, h2, h3)) := Lib.hid fun ⟨i, hi⟩ => hdd (by
          obtain ⟨_, _, z1, _, _, _⟩ := HR1.out.good rfl
          obtain ⟨_, _, z2, _, _, _⟩ := HR2.out.good rfl
          have e1 := z1.ds
          have e2 := z2.ds
          rw [← hi, nbn_disc, e1] at e2
          exact e2)
        have hdd' : (discW a b c == discW a' b' c') = false := by simp [hdd]
        clear hdd
        go_wp2_with fail
        refine wp_region_past (by kernel_rfl) (by kernel_rfl) ?_
        repeat (first | go_big_quiet_skip | (go_big_quiet_want; go_big_quiet_op; first | go_big_quiet_on | (apply Exists.intro; refine ⟨fun _ => ?_, ?_⟩; (focus ((go_at_call 74; exact past_of (foDisc_any _ _ _ _)))); go_big_quiet_on)))
        refine wpQuiet_nil ?_
        intro w4 hw'
        have hB4 := past_below hw'
        clear hw'
        obtain ⟨hC4, hF4⟩ := bcell hB4
        have hS4 := hB4.size
        (try simp at hS4)
        (try have hS4_w0 : w.heap.size < w4.heap.size := by omega)
        (try have hS4_w1 : w.heap.size + 1 < w4.heap.size := by omega)
        (try have hS4_w2 : w.heap.size + 1 + 1 < w4.heap.size := by omega)
        (try have hS4_w3 : w.heap.size + 1 + 1 + 1 < w4.heap.size := by omega)
        (try have hS4_w4 : w.heap.size + 1 + 1 + 1 + 1 < w4.heap.size := by omega)
        (try have hS4_1 : w1.heap.size < w4.heap.size := by omega)
        (try have hS4_2 : w2.heap.size < w4.heap.size := by omega)
        (try have hS4_3 : w3.heap.size < w4.heap.size := by omega)
        (try have hS4_1' : w1.heap.size + 1 < w4.heap.size := by omega)
        (try have hS4_2' : w2.heap.size + 1 < w4.heap.size := by omega)
        (try have hS4_3' : w3.heap.size + 1 < w4.heap.size := by omega)
        go_wp2_with fail
        refine bodyPost_ret (v := .tuple #[.bool false, .bool true]) (by go_light; simp [results, Try.results23, go_sem]) rfl ?_
        refine ⟨⟨false, true, rfl, _, _, _, _, _, _, HR1.out, HR2.out, rfl, (fun h => by cases h), fun _ => ⟨fun h => (by cases h), fun h => absurd h HD.out⟩⟩, ?_⟩
        have hX := HB2.out
        repeat (first | with_reducible exact Below.refl _ _ | with_reducible assumption | ((with_reducible refine blA ?_ ?_); (focus (first | omega | (simp <;> omega)))) | (with_reducible refine blD ?_) | (with_reducible refine blN ?_) | ((with_reducible refine blS ?_ ?_); (focus (first | omega | (simp <;> omega)))) | ((with_reducible refine blT (by assumption) ?_ ?_); (focus (first | omega | (simp <;> omega)))))
      have hdd' : (discW a b c == discW a' b' c') = true := by simp [hdd]
      clear hdd
      go_wp2_with fail
      refine region_mix 11 [0, 1, 2, 3, 4, 5, 6, 8] [(false, 7), (false, 9), (true, 10)] (by kernel_rfl) (by kernel_rfl) (by kernel_rfl) ?_
      apply Exists.intro
      refine ⟨fun w0 hw0 => ?_, ?_⟩
      · obtain ⟨hC0, hF0⟩ := bcell hw0
        have hS0 := hw0.size
        (try simp at hS0)
        (try have hS0_w0 : w.heap.size < w0.heap.size := by omega)
        (try have hS0_w1 : w.heap.size + 1 < w0.heap.size := by omega)
        (try have hS0_w2 : w.heap.size + 1 + 1 < w0.heap.size := by omega)
        (try have hS0_w3 : w.heap.size + 1 + 1 + 1 < w0.heap.size := by omega)
        (try have hS0_w4 : w.heap.size + 1 + 1 + 1 + 1 < w0.heap.size := by omega)
        (try have hL0_w0 : w.heap.size ≤ w0.heap.size := by omega)
        (try have hL0_w1 : w.heap.size + 1 ≤ w0.heap.size := by omega)
        (try have hL0_w2 : w.heap.size + 1 + 1 ≤ w0.heap.size := by omega)
        (try have hL0_w3 : w.heap.size + 1 + 1 + 1 ≤ w0.heap.size := by omega)
        (try have hL0_w : w.heap.size ≤ w0.heap.size + 1 := by omega)
        (try have hM0_1 : w.heap.size < w0.heap.size + 1 := by omega)
        (try have hM0_2 : w.heap.size < w0.heap.size + 1 + 1 := by omega)
        (try have hM0_3 : w.heap.size < w0.heap.size + 1 + 1 + 1 := by omega)
        (try have hN0_1_00 : w1.heap.size < w0.heap.size := by omega)
        (try have hN0_1_01 : w1.heap.size < w0.heap.size + 1 := by omega)
        (try have hN0_1_02 : w1.heap.size < w0.heap.size + 1 + 1 := by omega)
        (try have hN0_1_10 : w1.heap.size + 1 < w0.heap.size := by omega)
        (try have hN0_1_11 : w1.heap.size + 1 < w0.heap.size + 1 := by omega)
        (try have hN0_1_12 : w1.heap.size + 1 < w0.heap.size + 1 + 1 := by omega)
        (try have hN0_1_20 : w1.heap.size + 1 + 1 < w0.heap.size := by omega)
        (try have hN0_1_21 : w1.heap.size + 1 + 1 < w0.heap.size + 1 := by omega)
        (try have hN0_1_22 : w1.heap.size + 1 + 1 < w0.heap.size + 1 + 1 := by omega)
        (try have hN0_2_00 : w2.heap.size < w0.heap.size := by omega)
        (try have hN0_2_01 : w2.heap.size < w0.heap.size + 1 := by omega)
        (try have hN0_2_02 : w2.heap.size < w0.heap.size + 1 + 1 := by omega)
        (try have hN0_2_10 : w2.heap.size + 1 < w0.heap.size := by omega)
        (try have hN0_2_11 : w2.heap.size + 1 < w0.heap.size + 1 := by omega)
        (try have hN0_2_12 : w2.heap.size + 1 < w0.heap.size + 1 + 1 := by omega)
        (try have hN0_2_20 : w2.heap.size + 1 + 1 < w0.heap.size := by omega)
        (try have hN0_2_21 : w2.heap.size + 1 + 1 < w0.heap.size + 1 := by omega)
        (try have hN0_2_22 : w2.heap.size + 1 + 1 < w0.heap.size + 1 + 1 := by omega)
        (try have hN0_3_00 : w3.heap.size < w0.heap.size := by omega)
        (try have hN0_3_01 : w3.heap.size < w0.heap.size + 1 := by omega)
        (try have hN0_3_02 : w3.heap.size < w0.heap.size + 1 + 1 := by omega)
        (try have hN0_3_10 : w3.heap.size + 1 < w0.heap.size := by omega)
        (try have hN0_3_11 : w3.heap.size + 1 < w0.heap.size + 1 := by omega)
        (try have hN0_3_12 : w3.heap.size + 1 < w0.heap.size + 1 + 1 := by omega)
        (try have hN0_3_20 : w3.heap.size + 1 + 1 < w0.heap.size := by omega)
        (try have hN0_3_21 : w3.heap.size + 1 + 1 < w0.heap.size + 1 := by omega)
        (try have hN0_3_22 : w3.heap.size + 1 + 1 < w0.heap.size + 1 + 1 := by omega)
        (try have hL0_1 : w1.heap.size ≤ w0.heap.size := by omega)
        (try have hL0_2 : w2.heap.size ≤ w0.heap.size := by omega)
        (try have hL0_3 : w3.heap.size ≤ w0.heap.size := by omega)
        (try have hS0_1 : w1.heap.size < w0.heap.size := by omega)
        (try have hS0_1' : w1.heap.size + 1 < w0.heap.size := by omega)
        (try have hS0_2 : w2.heap.size < w0.heap.size := by omega)
        (try have hS0_2' : w2.heap.size + 1 < w0.heap.size := by omega)
        (try have hS0_3 : w3.heap.size < w0.heap.size := by omega)
        (try have hS0_3' : w3.heap.size + 1 < w0.heap.size := by omega)
        have hS0x : x1.heap.size < w0.heap.size := (by omega); have hS0y : x2.heap.size < w0.heap.size := (by omega); have hS0z : w.heap.size < w0.heap.size := (by omega); have hS0w : w.heap.size + 1 < w0.heap.size := (by omega)
        simp only [List.filterMap_cons, List.filterMap_nil, List.getElem?_cons_zero, List.getElem?_cons_succ]
        show wpQuiet _ _ _ _ [_, _, _, _, _, _, _, _] _
        repeat (first | go_big_quiet_skip | (go_big_quiet_want; go_big_quiet_op; first | go_big_quiet_on | (apply Exists.intro; refine ⟨fun _ => ?_, ?_⟩; (focus ((go_at_call 74; exact past_of (foDisc_any _ _ _ _)))); go_big_quiet_on)))
        refine wpQuiet_nil ?_
        rfl
      intro W hW hWz
      simp only [List.filterMap_cons, List.filterMap_nil, List.getElem?_cons_zero, List.getElem?_cons_succ, Option.map_some, List.drop_succ_cons, List.drop_zero]
      show effW _ _ _ _ [(false, _), (false, _), (true, _)] _ _
      refine effM_of fun wa hBa => ?_
      have hza := hBa.size
      try simp at hza
      go_wp2_with fail
      refine (hcyc.out _).mono ?_
      rintro e3 wb ⟨⟨v, rfl, hr⟩, hBb⟩
      obtain ⟨va, vc, hv, hvc, _, hsee⟩ := hr.sees c3_len
      subst hv
      have HS := Lib.hid hsee
      have hzb := hBb.size
      clear hsee hr hvc
      go_wp2
      refine effQ_of rfl (by repeat (first | with_reducible exact Below.refl _ _ | with_reducible assumption | ((with_reducible refine blA ?_ ?_); (focus (first | omega | (simp <;> omega)))) | (with_reducible refine blD ?_) | (with_reducible refine blN ?_) | ((with_reducible refine blS ?_ ?_); (focus (first | omega | (simp <;> omega)))) | ((with_reducible refine blT (by assumption) ?_ ?_); (focus (first | omega | (simp <;> omega)))))) ?_
      refine effM_of fun wc hBc => ?_
      have hzc := hBc.size
      try simp at hzc
      go_wp2_with fail
      refine (cyHas_any L (h1, h2, h3) va vc _ _ (HS.out.below hBc) hlen.out).mono ?_
      rintro e4 wd ⟨rfl, hBd⟩
      have hzd := hBd.size
      go_wp2
      refine effQ_of rfl (by repeat (first | with_reducible exact Below.refl _ _ | with_reducible assumption | ((with_reducible refine blA ?_ ?_); (focus (first | omega | (simp <;> omega)))) | (with_reducible refine blD ?_) | (with_reducible refine blN ?_) | ((with_reducible refine blS ?_ ?_); (focus (first | omega | (simp <;> omega)))) | ((with_reducible refine blT (by assumption) ?_ ?_); (focus (first | omega | (simp <;> omega)))))) ?_
      refine effQuiet (by kernel_rfl) ?_
      apply Exists.intro
      refine ⟨fun w0 hw0 => ?_, ?_⟩
      · repeat (first | go_big_quiet_skip | (go_big_quiet_want; go_big_quiet_op; first | go_big_quiet_on | (apply Exists.intro; refine ⟨fun _ => ?_, ?_⟩; (focus (fail)); go_big_quiet_on)))
        refine wpQuiet_nil ?_
        rfl
      intro wl hwl
      have hBl := past_below hwl
      clear hwl
      go_wp2_with fail
      refine bodyPost_ret (v := .tuple #[.bool (decide ((h1, h2, h3) ∈ L)), .bool true]) (by go_light; simp [results, Try.results23, go_sem]) rfl ?_
      refine ⟨⟨decide ((h1, h2, h3) ∈ L), true, rfl, _, _, _, _, _, _, HR1.out, HR2.out, rfl, (fun h => by cases h), fun _ => ?_⟩, ?_⟩
      · rw [inC_cyc HN.out]
        show _ ↔ _ ∈ cyc (isqrt (discW a b c)) n (g1, g2, g3)
        rw [HL.out]
        simp
      · have hX := HB2.out
        (try simp at hWz)
        have hY : Below x2.heap.size x2 wl := by repeat (first | with_reducible exact Below.refl _ _ | with_reducible assumption | ((with_reducible refine blA ?_ ?_); (focus (first | omega | (simp <;> omega)))) | (with_reducible refine blD ?_) | (with_reducible refine blN ?_) | ((with_reducible refine blS ?_ ?_); (focus (first | omega | (simp <;> omega)))) | ((with_reducible refine blT (by assumption) ?_ ?_); (focus (first | omega | (simp <;> omega)))))
        exact hX.trans (hY.mono hX.size)
end Go.Proofs.Ytemnkfigjpphgaa

/-
  The matrix that leads from a form to another in its class: what is returned.
-/
namespace Go.Proofs.Ytemnkfigjpphgaa
open Go.RowKit
attribute [local simp, local go_sem] past_cell past_frozen past_tape
/-- The way along the cycle from x to y. -/
inductive Wk (r : Int) (y : Fm) : Fm → Mt → Mt → Bool → Prop
  | stop {x M} : x = y → Wk r y x M M true
  | bad {x M} : x ≠ y → ¬ mle 1000000 (mm M (nmg r x)) → Wk r y x M (0, 0, 0, 0) false
  | next {x M N ok} : x ≠ y → mle 1000000 (mm M (nmg r x)) → Wk r y (nbg r x) (mm M (nmg r x)) N ok → Wk r y x M N ok
theorem Wk.same {r : Int} {y x : Fm} {M N : Mt} {ok : Bool} (h : Wk r y x M N ok) : ∀ {N' ok'}, Wk r y x M N' ok' → N = N' ∧ ok = ok' := by
  induction h with
  | stop h =>
    intro N' ok' h'
    cases h' with
    | stop _ => exact ⟨rfl, rfl⟩
    | bad h2 _ => exact absurd h h2
    | next h2 _ _ => exact absurd h h2
  | bad h hm =>
    intro N' ok' h'
    cases h' with
    | stop h2 => exact absurd h2 h
    | bad _ _ => exact ⟨rfl, rfl⟩
    | next _ h3 _ => exact absurd h3 hm
  | next h hm _ ih =>
    intro N' ok' h'
    cases h' with
    | stop h2 => exact absurd h2 h
    | bad _ h3 => exact absurd hm h3
    | next _ _ h4 => exact ih h4
theorem Wk.facts {r : Int} {y x : Fm} {M N : Mt} {ok : Bool} (h : Wk r y x M N ok) (hok : ok = true) (hm : mle 1000000 M) (hd : mdet M = 1) : mle 1000000 N ∧ mdet N = 1 ∧ ∀ f0, fact f0 M = x → fact f0 N = y := by
  induction h with
  | stop h => exact ⟨hm, hd, fun f0 h0 => by rw [h0, h]⟩
  | bad _ _ => cases hok
  | next _ hm' _ ih =>
    obtain ⟨a, b, c⟩ := ih hok hm' (by rw [mdet_mm, hd]; unfold nmg; rw [nm_det]; rfl)
    exact ⟨a, b, fun f0 h0 => c f0 (by rw [fact_mm, h0]; rfl)⟩
theorem Wk.none {r : Int} {y x : Fm} {M N : Mt} {ok : Bool} (h : Wk r y x M N ok) (hok : ok = false) : N = (0, 0, 0, 0) := by
  induction h with
  | stop _ => cases hok
  | bad _ _ => rfl
  | next _ _ _ ih => exact ih hok
/-- How far it is to y. -/
def dstF (r : Int) (y : Fm) : Nat → Fm → Nat
  | 0, _ => 0
  | n + 1, x => if x = y then 0 else dstF r y n (nb r x) + 1
theorem dstF_more (r : Int) (y : Fm) : ∀ (i n : Nat) (x : Fm), nbn r i x = y → i ≤ n → dstF r y (n + 1) x = dstF r y n x ∨ i = n ∧ n = 0 ∧ x = y
  | 0, 0, x, h, _ => .inr ⟨rfl, rfl, h⟩
  | 0, n + 1, x, h, _ => by
    have h : x = y := h
    left
    show (if x = y then 0 else _) = (if x = y then 0 else _)
    rw [if_pos h, if_pos h]
  | i + 1, 0, x, h, hi => by omega
  | i + 1, n + 1, x, h, hi => by
    left
    show (if x = y then 0 else dstF r y (n + 1) (nb r x) + 1) = (if x = y then 0 else dstF r y n (nb r x) + 1)
    by_cases hx : x = y
    · rw [if_pos hx, if_pos hx]
    · rw [if_neg hx, if_neg hx]
      rcases dstF_more r y i n (nb r x) h (by omega) with e | ⟨e1, e2, e3⟩
      · rw [e]
      · subst e2
        have : dstF r y 1 (nb r x) = 0 := by
          show (if nb r x = y then 0 else _) = 0
          rw [if_pos e3]
        rw [this]; rfl
def dst (r : Int) (y x : Fm) : Nat := dstF r y 2200 x
theorem dst_less {r : Int} {y x : Fm} {i : Nat} (h : nbn r i x = y) (hi : i ≤ 2100) (hx : x ≠ y) : dst r y (nb r x) < dst r y x ∧ ∃ j, j ≤ 2100 ∧ nbn r j (nb r x) = y := by
  obtain ⟨j, rfl⟩ : ∃ j, i = j + 1 := ⟨i - 1, by
    rcases Nat.eq_zero_or_pos i with h0 | h0
    · subst h0; exact absurd h hx
    · omega⟩
  have h' : nbn r j (nb r x) = y := h
  refine ⟨?_, j, by omega, h'⟩
  unfold dst
  have e1 : dstF r y 2200 x = dstF r y 2199 (nb r x) + 1 := by
    show (if x = y then 0 else _) = _
    rw [if_neg hx]
  rcases dstF_more r y j 2199 (nb r x) h' (by omega) with e | ⟨_, e2, _⟩
  · have e' : dstF r y 2200 (nb r x) = dstF r y 2199 (nb r x) := e
    omega
  · omega
def minv (N : Mt) : Mt := (N.2.2.2, -N.2.1, -N.2.2.1, N.1)
theorem mm_minv {N : Mt} (h : mdet N = 1) : mm N (minv N) = mI := by
  obtain ⟨p, q, r, s⟩ := N
  simp only [mdet] at h
  refine Prod.ext ?_ (Prod.ext ?_ (Prod.ext ?_ ?_)) <;> simp only [mm, minv, mI] <;> grind
theorem minv_det (N : Mt) : mdet (minv N) = mdet N := by simp only [mdet, minv]; grind
theorem mle_minv {N : Mt} (h : mle 1000000 N) : mle 1000000 (minv N) := by
  obtain ⟨a, b, c, d⟩ := h
  exact ⟨d, by simp only [minv]; omega, by simp only [minv]; omega, a⟩
/-- What CycleMatrix returns. -/
def CM (f f' : Fm) (m : Mt) (ok : Bool) : Prop := ∃ x M o y N o', RI f x M o ∧ RI f' y N o' ∧
  ((((o && o') = false ∨ ¬ InC (isqrt (discW f.1 f.2.1 f.2.2)) x y) ∧ m = (0, 0, 0, 0) ∧ ok = false) ∨
   ((o && o') = true ∧ InC (isqrt (discW f.1 f.2.1 f.2.2)) x y ∧ ∃ P ok2, Wk (isqrt (discW f.1 f.2.1 f.2.2)) y x M P ok2 ∧
     ((¬ (ok2 = true ∧ mle 1000000 (mm P (minv N))) ∧ m = (0, 0, 0, 0) ∧ ok = false) ∨ (ok2 = true ∧ mle 1000000 (mm P (minv N)) ∧ m = mm P (minv N) ∧ ok = true))))
theorem CM.same {f f' : Fm} {m m' : Mt} {ok ok' : Bool} (h : CM f f' m ok) (h' : CM f f' m' ok') : m = m' ∧ ok = ok' := by
  obtain ⟨x, M, o, y, N, p, h1, h2, h3⟩ := h
  obtain ⟨x', M', o', y', N', p', k1, k2, k3⟩ := h'
  obtain ⟨rfl, rfl, rfl⟩ := h1.same k1
  obtain ⟨rfl, rfl, rfl⟩ := h2.same k2
  rcases h3 with ⟨a, rfl, rfl⟩ | ⟨a, b, P, o2, hw, h3⟩ <;> rcases k3 with ⟨a', rfl, rfl⟩ | ⟨a', b', P', o2', hw', k3⟩
  · exact ⟨rfl, rfl⟩
  · rcases a with a | a
    · rw [a] at a'; cases a'
    · exact absurd b' a
  · rcases a' with a' | a'
    · rw [a] at a'; cases a'
    · exact absurd b a'
  · obtain ⟨rfl, rfl⟩ := hw.same hw'
    rcases h3 with ⟨c, rfl, rfl⟩ | ⟨c1, c2, rfl, rfl⟩ <;> rcases k3 with ⟨c', rfl, rfl⟩ | ⟨c1', c2', rfl, rfl⟩
    · exact ⟨rfl, rfl⟩
    · exact absurd ⟨c1', c2'⟩ c
    · exact absurd ⟨c1, c2⟩ c'
    · exact ⟨rfl, rfl⟩
/-- A matrix that is returned does what it claims. -/
theorem CM.good {f f' : Fm} {m : Mt} {ok : Bool} (h : CM f f' m ok) (hok : ok = true) : indB f.1 f.2.1 f.2.2 = true ∧ indB f'.1 f'.2.1 f'.2.2 = true ∧ mle 1000000 m ∧ mdet m = 1 ∧ fact f m = f' ∧ SC f f' true true := by
  obtain ⟨x, M, o, y, N, p, h1, h2, h3⟩ := h
  rcases h3 with ⟨_, _, rfl⟩ | ⟨a, b, P, o2, hw, ⟨_, _, rfl⟩ | ⟨c1, c2, rfl, _⟩⟩
  · cases hok
  · cases hok
  · have ho : o = true ∧ p = true := by simpa using a
    obtain ⟨g1, g2, g3, g4, g5, g6⟩ := h1.good ho.1
    obtain ⟨e1, e2, e3, e4, e5, e6⟩ := h2.good ho.2
    obtain ⟨q1, q2, q3⟩ := hw.facts c1 g4 g5
    refine ⟨g1, e1, c2, by rw [mdet_mm, q2, minv_det, e5]; rfl, ?_, ⟨x, M, o, y, N, p, h1, h2, a.symm, fun h => (by cases h), fun _ => ⟨fun _ => b, fun _ => rfl⟩⟩⟩
    rw [fact_mm, q3 f g6, ← e6, ← fact_mm, mm_minv e5, fact_one]
/-- The blocks of the loop: x at X, its matrix behind it; y at Y, its matrix behind it; the result at R. -/
structure KM (w wr : World) (R X Y : Nat) (x : Fm) (M : Mt) (y : Fm) (N : Mt) : Prop where
  x : Blk X 36 #[.int .i64 x.1, .int .i64 x.2.1, .int .i64 x.2.2] wr
  m : Blk (X + 1) 40 #[.int .i64 M.1, .int .i64 M.2.1, .int .i64 M.2.2.1, .int .i64 M.2.2.2] wr
  y : Blk Y 36 #[.int .i64 y.1, .int .i64 y.2.1, .int .i64 y.2.2] wr
  n : Blk (Y + 1) 40 #[.int .i64 N.1, .int .i64 N.2.1, .int .i64 N.2.2.1, .int .i64 N.2.2.2] wr
  r : Blk R 40 #[.int .i64 0, .int .i64 0, .int .i64 0, .int .i64 0] wr
  b : Below w.heap.size w wr
  o : w.heap.size ≤ R ∧ R < X ∧ X + 1 < Y
theorem KM.below {w wr w' : World} {R X Y : Nat} {x y : Fm} {M N : Mt} (h : KM w wr R X Y x M y N) (hb : Below wr.heap.size wr w') : KM w w' R X Y x M y N :=
  ⟨h.x.below hb, h.m.below hb, h.y.below hb, h.n.below hb, h.r.below hb, h.b.trans (hb.mono h.b.size), h.o⟩
theorem KM.alloc {w wr : World} {R X Y : Nat} {x y : Fm} {M N : Mt} (h : KM w wr R X Y x M y N) (o : Obj) : KM w (wr.alloc o) R X Y x M y N :=
  ⟨h.x.alloc o, h.m.alloc o, h.y.alloc o, h.n.alloc o, h.r.alloc o, h.b.alloc (by have := h.b.size; omega) _, h.o⟩
theorem inverse_minv (N : Mt) (w : World) (h : mle 1000000 N) (hd : mdet N = 1) :
    Calls Try.prog 72 #[.agg #[.int .i64 N.1, .int .i64 N.2.1, .int .i64 N.2.2.1, .int .i64 N.2.2.2]] w fun en w' => en = .returned (.agg #[.int .i64 ((minv N).1), .int .i64 ((minv N).2.1), .int .i64 ((minv N).2.2.1), .int .i64 ((minv N).2.2.2)]) ∧ Below w.heap.size w w' := by
  have hm := mB_mle.2 h
  have e := dW_eq hm
  obtain ⟨p, q, r, s⟩ := N
  obtain ⟨h1, h2, h3, h4⟩ := h
  simp only [mdet] at *
  rw [hd] at e
  have k := minv_any p q r s w
  have e1 : iP p q r s = s := by unfold iP; rw [e]; unfold wrap64; omega
  have e2 : iQ p q r s = -q := by unfold iQ; rw [e]; unfold wrap64; omega
  have e3 : iR p q r s = -r := by unfold iR; rw [e]; unfold wrap64; omega
  have e4 : iS p q r s = p := by unfold iS; rw [e]; unfold wrap64; omega
  rwa [e1, e2, e3, e4] at k
theorem foInverse_minv (N : Mt) (w : World) (h : mle 1000000 N) (hd : mdet N = 1) :
    Calls Try.prog 82 #[.agg #[.int .i64 N.1, .int .i64 N.2.1, .int .i64 N.2.2.1, .int .i64 N.2.2.2]] w fun en w' => en = .returned (.agg #[.int .i64 ((minv N).1), .int .i64 ((minv N).2.1), .int .i64 ((minv N).2.2.1), .int .i64 ((minv N).2.2.2)]) ∧ Below w.heap.size w w' := by
  have hm := mB_mle.2 h
  have e := dW_eq hm
  obtain ⟨p, q, r, s⟩ := N
  obtain ⟨h1, h2, h3, h4⟩ := h
  simp only [mdet] at *
  rw [hd] at e
  have k := sinv_any p q r s w
  have e1 : iP p q r s = s := by unfold iP; rw [e]; unfold wrap64; omega
  have e2 : iQ p q r s = -q := by unfold iQ; rw [e]; unfold wrap64; omega
  have e3 : iR p q r s = -r := by unfold iR; rw [e]; unfold wrap64; omega
  have e4 : iS p q r s = p := by unfold iS; rw [e]; unfold wrap64; omega
  rwa [e1, e2, e3, e4] at k
end Go.Proofs.Ytemnkfigjpphgaa
