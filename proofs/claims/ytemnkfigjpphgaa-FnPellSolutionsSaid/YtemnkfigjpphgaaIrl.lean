/-
  Reduction of indefinite forms and the comparison of their cycles: what is returned, and the walks, both ways.
-/
import Derived.Test.YtemnkfigjpphgaaRws
import Derived.Test.YtemnkfigjpphgaaIrs
import Derived.Test.YtemnkfigjpphgaaIcs
namespace Go.Proofs.Ytemnkfigjpphgaa
open Go.RowKit
attribute [local simp, local go_sem] past_cell past_frozen past_tape
/-- What ReduceIndefinite returns. -/
def RI (f : Fm) (g : Fm) (N : Mt) (ok : Bool) : Prop :=
  (indB f.1 f.2.1 f.2.2 = true ∧ Rd (isqrt (discW f.1 f.2.1 f.2.2)) f mI g N ok) ∨ (indB f.1 f.2.1 f.2.2 = false ∧ g = (0, 0, 0) ∧ N = (0, 0, 0, 0) ∧ ok = false)
theorem RI.same {f g g' : Fm} {N N' : Mt} {ok ok' : Bool} (h : RI f g N ok) (h' : RI f g' N' ok') : g = g' ∧ N = N' ∧ ok = ok' := by
  rcases h with ⟨h1, h2⟩ | ⟨h1, rfl, rfl, rfl⟩ <;> rcases h' with ⟨k1, k2⟩ | ⟨k1, rfl, rfl, rfl⟩
  · exact h2.same k2
  · rw [h1] at k1; cases k1
  · rw [h1] at k1; cases k1
  · exact ⟨rfl, rfl, rfl⟩
theorem Rd.none {r : Int} {f : Fm} {M : Mt} {g : Fm} {N : Mt} {ok : Bool} (h : Rd r f M g N ok) (hok : ok = false) : g = (0, 0, 0) ∧ N = (0, 0, 0, 0) := by
  induction h with
  | stop _ => cases hok
  | bad _ _ => exact ⟨rfl, rfl⟩
  | next _ _ _ ih => exact ih hok
theorem RI.bad {f g : Fm} {N : Mt} {ok : Bool} (h : RI f g N ok) (hok : ok = false) : g = (0, 0, 0) ∧ N = (0, 0, 0, 0) := by
  rcases h with ⟨h1, h2⟩ | ⟨h1, rfl, rfl, rfl⟩
  · exact h2.none hok
  · exact ⟨rfl, rfl⟩
theorem RI.good {f g : Fm} {N : Mt} {ok : Bool} (h : RI f g N ok) (hok : ok = true) : indB f.1 f.2.1 f.2.2 = true ∧ Cy (isqrt (discW f.1 f.2.1 f.2.2)) g ∧ Gd (isqrt (discW f.1 f.2.1 f.2.2)) (discW f.1 f.2.1 f.2.2) g ∧ mle 1000000 N ∧ mdet N = 1 ∧ fact f N = g := by
  rcases h with ⟨h1, h2⟩ | ⟨h1, rfl, rfl, rfl⟩
  · obtain ⟨a, b, c, d, e⟩ := h2.facts (ind_gd h1) ⟨by decide, by decide, by decide, by decide⟩ rfl hok
    exact ⟨h1, cyB_iff.1 a, b, c, d, e f (fact_one f)⟩
  · cases hok
theorem ind_pos {a b c : Int} (h : indB a b c = true) : posB (discW a b c) = true := by
  simp only [indB, Bool.and_eq_true] at h
  exact h.2
theorem ci_of {r d : Int} {x : Fm} (hc : Cy r x) (hg : Gd r d x) : ∃ n, CI r d n x 0 := by
  obtain ⟨n, h1, h2, h3, h4⟩ := nbn_first hc hg.root hg.r31
  exact ⟨n, hc, hg, by omega, h2, h3, h4⟩
/-- To lie in a cycle. -/
def InC (r : Int) (x y : Fm) : Prop := ∃ i, nbn r i x = y
theorem inC_cyc {r d : Int} {n k : Nat} {x y : Fm} (h : CI r d n x k) : InC r x y ↔ y ∈ cyc r n x := by
  rw [mem_cyc]
  constructor
  · rintro ⟨i, rfl⟩
    exact ⟨i % n, Nat.mod_lt _ (by have := h.lt; omega), (nbn_mod h.ret i).symm⟩
  · rintro ⟨i, _, rfl⟩
    exact ⟨i, rfl⟩
/-- What SameCycle returns. -/
def SC (f f' : Fm) (s ok : Bool) : Prop := ∃ x M o y N o', RI f x M o ∧ RI f' y N o' ∧ ok = (o && o') ∧ (ok = false → s = false) ∧ (ok = true → (s = true ↔ InC (isqrt (discW f.1 f.2.1 f.2.2)) x y))
theorem SC.same {f f' : Fm} {s ok s' ok' : Bool} (h : SC f f' s ok) (h' : SC f f' s' ok') : s = s' ∧ ok = ok' := by
  obtain ⟨x, M, o, y, N, p, h1, h2, h3, h4, h5⟩ := h
  obtain ⟨x', M', o', y', N', p', k1, k2, k3, k4, k5⟩ := h'
  obtain ⟨rfl, rfl, rfl⟩ := h1.same k1
  obtain ⟨rfl, rfl, rfl⟩ := h2.same k2
  have e : ok = ok' := by rw [h3, k3]
  refine ⟨?_, e⟩
  subst e
  cases ok
  · rw [h4 rfl, k4 rfl]
  · rw [Bool.eq_iff_iff, h5 rfl, k5 rfl]
/-- Symmetry. -/
theorem SC.symm {f f' : Fm} {s ok s' ok' : Bool} (h : SC f f' s ok) (h' : SC f' f s' ok') : s = s' ∧ ok = ok' := by
  obtain ⟨x, M, o, y, N, p, h1, h2, h3, h4, h5⟩ := h
  obtain ⟨y', N', p', x', M', o', k2, k1, k3, k4, k5⟩ := h'
  obtain ⟨rfl, rfl, rfl⟩ := h1.same k1
  obtain ⟨rfl, rfl, rfl⟩ := h2.same k2
  have e : ok = ok' := by rw [h3, k3, Bool.and_comm]
  refine ⟨?_, e⟩
  subst e
  cases hok : ok
  · rw [h4 hok, k4 hok]
  · have ho : o = true ∧ p = true := by rw [hok] at h3; simpa using h3.symm
    obtain ⟨_, g1, g2, _, _, _⟩ := h1.good ho.1
    obtain ⟨_, g3, g4, _, _, _⟩ := h2.good ho.2
    obtain ⟨n, hn⟩ := ci_of g1 g2
    obtain ⟨m, hm⟩ := ci_of g3 g4
    rw [Bool.eq_iff_iff, h5 hok, k5 hok]
    have key : ∀ {r d r' d' : Int} {n m : Nat} {x y : Fm}, CI r d n x 0 → CI r' d' m y 0 → InC r x y → InC r' y x := by
      intro r d r' d' n m x y hx hy h
      have hd : d = d' := by
        obtain ⟨i, hi⟩ := h
        rw [← hx.gd.ds, ← hy.gd.ds, ← hi, nbn_disc]
      subst hd
      have hr : r = r' := by rw [← hx.gd.sq, ← hy.gd.sq]
      subst hr
      rw [inC_cyc hx] at h
      rw [inC_cyc hy]
      exact cyc_symm (by have := hx.lt; omega) hx.ret (by have := hy.lt; omega) hy.ret h
    exact ⟨key hn hm, key hm hn⟩
set_option maxHeartbeats 1000000 in
theorem implReduce_any (a b c : Int) (w : World) : Calls Try.prog 27 #[.agg #[.int .i64 a, .int .i64 b, .int .i64 c]] w fun e w' => (∃ (g : Fm) (N : Mt) (ok : Bool), e = .returned (.tuple #[.agg #[.int .i64 g.1, .int .i64 g.2.1, .int .i64 g.2.2], .agg #[.int .i64 N.1, .int .i64 N.2.1, .int .i64 N.2.2.1, .int .i64 N.2.2.2], .bool ok]) ∧ RI (a, b, c) g N ok) ∧ Below w.heap.size w w' := by
  by_cases hi : indB a b c = true
  · have h1 : Hid (∀ w0, Calls Try.prog 87 #[.agg #[.int .i64 a, .int .i64 b, .int .i64 c]] w0 fun en w' => en = .returned (.bool true) ∧ Below w0.heap.size w0 w') := Lib.hid fun w0 => by have h := isIndefinite_any a b c w0; rwa [hi] at h
    have h2 := Lib.hid fun w0 => toCycle_any _ _ a b c w0 (ind_gd hi) (ind_pos hi)
    have HI := Lib.hid hi
    clear hi
    go_enter Try.func27, Try.ntmps27
    go_wp2_with fail
    refine (h1.out _).mono ?_
    rintro e1 w1 ⟨rfl, hB1⟩
    obtain ⟨hC1, hF1⟩ := bcell hB1
    have hS1 := hB1.size
    (try simp at hS1)
    (try have hS1_w0 : w.heap.size < w1.heap.size := by omega)
    (try have hS1_w1 : w.heap.size + 1 < w1.heap.size := by omega)
    (try have hS1_w2 : w.heap.size + 1 + 1 < w1.heap.size := by omega)
    (try have hS1_w3 : w.heap.size + 1 + 1 + 1 < w1.heap.size := by omega)
    (try have hS1_w4 : w.heap.size + 1 + 1 + 1 + 1 < w1.heap.size := by omega)
    (try have hL1_w0 : w.heap.size ≤ w1.heap.size := by omega)
    (try have hL1_w1 : w.heap.size + 1 ≤ w1.heap.size := by omega)
    (try have hL1_w2 : w.heap.size + 1 + 1 ≤ w1.heap.size := by omega)
    (try have hL1_w3 : w.heap.size + 1 + 1 + 1 ≤ w1.heap.size := by omega)
    (try have hL1_w : w.heap.size ≤ w1.heap.size + 1 := by omega)
    (try have hM1_1 : w.heap.size < w1.heap.size + 1 := by omega)
    (try have hM1_2 : w.heap.size < w1.heap.size + 1 + 1 := by omega)
    (try have hM1_3 : w.heap.size < w1.heap.size + 1 + 1 + 1 := by omega)
    go_wp2_with fail
    refine (h2.out _).mono ?_
    rintro e2 x2 ⟨⟨⟨g1, g2, g3⟩, ⟨n1, n2, n3, n4⟩, ok, rfl, hR⟩, hB9⟩
    have HR := Lib.hid hR
    obtain ⟨hC9, hF9⟩ := bcell hB9
    have hz9 := hB9.size
    (try simp at hz9)
    have l1 : w.heap.size < x2.heap.size := by omega
    have l2 : w.heap.size + 1 < x2.heap.size := by omega
    have l3 : w.heap.size + 1 + 1 < x2.heap.size := by omega
    clear hR
    go_wp2_with fail
    (refine bodyPost_ret (v := .tuple #[.agg #[.int .i64 g1, .int .i64 g2, .int .i64 g3], .agg #[.int .i64 n1, .int .i64 n2, .int .i64 n3, .int .i64 n4], .bool ok]) (by go_light; simp [results, Try.results27, go_sem, *]) rfl ⟨⟨(g1, g2, g3), (n1, n2, n3, n4), ok, rfl, .inl ⟨HI.out, HR.out⟩⟩, ?_⟩; repeat (first | with_reducible exact Below.refl _ _ | with_reducible assumption | ((with_reducible refine blA ?_ ?_); (focus (first | omega | (simp <;> omega)))) | (with_reducible refine blD ?_) | (with_reducible refine blN ?_) | ((with_reducible refine blS ?_ ?_); (focus (first | omega | (simp <;> omega)))) | ((with_reducible refine blT (by assumption) ?_ ?_); (focus (first | omega | (simp <;> omega))))))
  · have hi' : indB a b c = false := by simpa using hi
    have h1 : Hid (∀ w0, Calls Try.prog 87 #[.agg #[.int .i64 a, .int .i64 b, .int .i64 c]] w0 fun en w' => en = .returned (.bool false) ∧ Below w0.heap.size w0 w') := Lib.hid fun w0 => by have h := isIndefinite_any a b c w0; rwa [hi'] at h
    have HI := Lib.hid hi'
    clear hi hi'
    go_enter Try.func27, Try.ntmps27
    go_wp2_with fail
    refine (h1.out _).mono ?_
    rintro e2 w2 ⟨rfl, hB2⟩
    obtain ⟨hC2, hF2⟩ := bcell hB2
    have hS2 := hB2.size
    (try simp at hS2)
    (try have hS2_w0 : w.heap.size < w2.heap.size := by omega)
    (try have hS2_w1 : w.heap.size + 1 < w2.heap.size := by omega)
    (try have hS2_w2 : w.heap.size + 1 + 1 < w2.heap.size := by omega)
    (try have hS2_w3 : w.heap.size + 1 + 1 + 1 < w2.heap.size := by omega)
    (try have hS2_w4 : w.heap.size + 1 + 1 + 1 + 1 < w2.heap.size := by omega)
    (try have hL2_w0 : w.heap.size ≤ w2.heap.size := by omega)
    (try have hL2_w1 : w.heap.size + 1 ≤ w2.heap.size := by omega)
    (try have hL2_w2 : w.heap.size + 1 + 1 ≤ w2.heap.size := by omega)
    (try have hL2_w3 : w.heap.size + 1 + 1 + 1 ≤ w2.heap.size := by omega)
    (try have hL2_w : w.heap.size ≤ w2.heap.size + 1 := by omega)
    (try have hM2_1 : w.heap.size < w2.heap.size + 1 := by omega)
    (try have hM2_2 : w.heap.size < w2.heap.size + 1 + 1 := by omega)
    (try have hM2_3 : w.heap.size < w2.heap.size + 1 + 1 + 1 := by omega)
    (try have hN2_1_00 : w1.heap.size < w2.heap.size := by omega)
    (try have hN2_1_01 : w1.heap.size < w2.heap.size + 1 := by omega)
    (try have hN2_1_02 : w1.heap.size < w2.heap.size + 1 + 1 := by omega)
    (try have hN2_1_10 : w1.heap.size + 1 < w2.heap.size := by omega)
    (try have hN2_1_11 : w1.heap.size + 1 < w2.heap.size + 1 := by omega)
    (try have hN2_1_12 : w1.heap.size + 1 < w2.heap.size + 1 + 1 := by omega)
    (try have hN2_1_20 : w1.heap.size + 1 + 1 < w2.heap.size := by omega)
    (try have hN2_1_21 : w1.heap.size + 1 + 1 < w2.heap.size + 1 := by omega)
    (try have hN2_1_22 : w1.heap.size + 1 + 1 < w2.heap.size + 1 + 1 := by omega)
    (try have hL2_1 : w1.heap.size ≤ w2.heap.size := by omega)
    (try have hS2_1 : w1.heap.size < w2.heap.size := by omega)
    (try have hS2_1' : w1.heap.size + 1 < w2.heap.size := by omega)
    go_wp2_with fail
    (refine bodyPost_ret (v := .tuple #[.agg #[.int .i64 0, .int .i64 0, .int .i64 0], .agg #[.int .i64 0, .int .i64 0, .int .i64 0, .int .i64 0], .bool false]) (by go_light; simp [results, Try.results27, go_sem, *]) rfl ⟨⟨(0, 0, 0), (0, 0, 0, 0), false, rfl, .inr ⟨HI.out, rfl, rfl, rfl⟩⟩, ?_⟩; repeat (first | with_reducible exact Below.refl _ _ | with_reducible assumption | ((with_reducible refine blA ?_ ?_); (focus (first | omega | (simp <;> omega)))) | (with_reducible refine blD ?_) | (with_reducible refine blN ?_) | ((with_reducible refine blS ?_ ?_); (focus (first | omega | (simp <;> omega)))) | ((with_reducible refine blT (by assumption) ?_ ?_); (focus (first | omega | (simp <;> omega))))))
set_option maxHeartbeats 1000000 in
theorem specReduce_any (a b c : Int) (w : World) : Calls Try.prog 28 #[.agg #[.int .i64 a, .int .i64 b, .int .i64 c]] w fun e w' => (∃ (g : Fm) (N : Mt) (ok : Bool), e = .returned (.tuple #[.agg #[.int .i64 g.1, .int .i64 g.2.1, .int .i64 g.2.2], .agg #[.int .i64 N.1, .int .i64 N.2.1, .int .i64 N.2.2.1, .int .i64 N.2.2.2], .bool ok]) ∧ RI (a, b, c) g N ok) ∧ Below w.heap.size w w' := by
  by_cases hi : indB a b c = true
  · have h1 : Hid (∀ w0, Calls Try.prog 73 #[.agg #[.int .i64 a, .int .i64 b, .int .i64 c]] w0 fun en w' => en = .returned (.bool true) ∧ Below w0.heap.size w0 w') := Lib.hid fun w0 => by have h := cyGood_any a b c w0; rwa [hi] at h
    have h2 := Lib.hid fun w0 => cyReduce_any _ _ a b c w0 (ind_gd hi) (ind_pos hi)
    have HI := Lib.hid hi
    clear hi
    go_enter Try.func28, Try.ntmps28
    go_wp2_with fail
    refine (h1.out _).mono ?_
    rintro e1 w1 ⟨rfl, hB1⟩
    obtain ⟨hC1, hF1⟩ := bcell hB1
    have hS1 := hB1.size
    (try simp at hS1)
    (try have hS1_w0 : w.heap.size < w1.heap.size := by omega)
    (try have hS1_w1 : w.heap.size + 1 < w1.heap.size := by omega)
    (try have hS1_w2 : w.heap.size + 1 + 1 < w1.heap.size := by omega)
    (try have hS1_w3 : w.heap.size + 1 + 1 + 1 < w1.heap.size := by omega)
    (try have hS1_w4 : w.heap.size + 1 + 1 + 1 + 1 < w1.heap.size := by omega)
    (try have hL1_w0 : w.heap.size ≤ w1.heap.size := by omega)
    (try have hL1_w1 : w.heap.size + 1 ≤ w1.heap.size := by omega)
    (try have hL1_w2 : w.heap.size + 1 + 1 ≤ w1.heap.size := by omega)
    (try have hL1_w3 : w.heap.size + 1 + 1 + 1 ≤ w1.heap.size := by omega)
    (try have hL1_w : w.heap.size ≤ w1.heap.size + 1 := by omega)
    (try have hM1_1 : w.heap.size < w1.heap.size + 1 := by omega)
    (try have hM1_2 : w.heap.size < w1.heap.size + 1 + 1 := by omega)
    (try have hM1_3 : w.heap.size < w1.heap.size + 1 + 1 + 1 := by omega)
    go_wp2_with fail
    refine (h2.out _).mono ?_
    rintro e2 x2 ⟨⟨⟨g1, g2, g3⟩, ⟨n1, n2, n3, n4⟩, ok, rfl, hR⟩, hB9⟩
    have HR := Lib.hid hR
    obtain ⟨hC9, hF9⟩ := bcell hB9
    have hz9 := hB9.size
    (try simp at hz9)
    have l1 : w.heap.size < x2.heap.size := by omega
    have l2 : w.heap.size + 1 < x2.heap.size := by omega
    have l3 : w.heap.size + 1 + 1 < x2.heap.size := by omega
    clear hR
    go_wp2_with fail
    (refine bodyPost_ret (v := .tuple #[.agg #[.int .i64 g1, .int .i64 g2, .int .i64 g3], .agg #[.int .i64 n1, .int .i64 n2, .int .i64 n3, .int .i64 n4], .bool ok]) (by go_light; simp [results, Try.results28, go_sem, *]) rfl ⟨⟨(g1, g2, g3), (n1, n2, n3, n4), ok, rfl, .inl ⟨HI.out, HR.out⟩⟩, ?_⟩; repeat (first | with_reducible exact Below.refl _ _ | with_reducible assumption | ((with_reducible refine blA ?_ ?_); (focus (first | omega | (simp <;> omega)))) | (with_reducible refine blD ?_) | (with_reducible refine blN ?_) | ((with_reducible refine blS ?_ ?_); (focus (first | omega | (simp <;> omega)))) | ((with_reducible refine blT (by assumption) ?_ ?_); (focus (first | omega | (simp <;> omega))))))
  · have hi' : indB a b c = false := by simpa using hi
    have h1 : Hid (∀ w0, Calls Try.prog 73 #[.agg #[.int .i64 a, .int .i64 b, .int .i64 c]] w0 fun en w' => en = .returned (.bool false) ∧ Below w0.heap.size w0 w') := Lib.hid fun w0 => by have h := cyGood_any a b c w0; rwa [hi'] at h
    have HI := Lib.hid hi'
    clear hi hi'
    go_enter Try.func28, Try.ntmps28
    go_wp2_with fail
    refine (h1.out _).mono ?_
    rintro e2 w2 ⟨rfl, hB2⟩
    obtain ⟨hC2, hF2⟩ := bcell hB2
    have hS2 := hB2.size
    (try simp at hS2)
    (try have hS2_w0 : w.heap.size < w2.heap.size := by omega)
    (try have hS2_w1 : w.heap.size + 1 < w2.heap.size := by omega)
    (try have hS2_w2 : w.heap.size + 1 + 1 < w2.heap.size := by omega)
    (try have hS2_w3 : w.heap.size + 1 + 1 + 1 < w2.heap.size := by omega)
    (try have hS2_w4 : w.heap.size + 1 + 1 + 1 + 1 < w2.heap.size := by omega)
    (try have hL2_w0 : w.heap.size ≤ w2.heap.size := by omega)
    (try have hL2_w1 : w.heap.size + 1 ≤ w2.heap.size := by omega)
    (try have hL2_w2 : w.heap.size + 1 + 1 ≤ w2.heap.size := by omega)
    (try have hL2_w3 : w.heap.size + 1 + 1 + 1 ≤ w2.heap.size := by omega)
    (try have hL2_w : w.heap.size ≤ w2.heap.size + 1 := by omega)
    (try have hM2_1 : w.heap.size < w2.heap.size + 1 := by omega)
    (try have hM2_2 : w.heap.size < w2.heap.size + 1 + 1 := by omega)
    (try have hM2_3 : w.heap.size < w2.heap.size + 1 + 1 + 1 := by omega)
    (try have hN2_1_00 : w1.heap.size < w2.heap.size := by omega)
    (try have hN2_1_01 : w1.heap.size < w2.heap.size + 1 := by omega)
    (try have hN2_1_02 : w1.heap.size < w2.heap.size + 1 + 1 := by omega)
    (try have hN2_1_10 : w1.heap.size + 1 < w2.heap.size := by omega)
    (try have hN2_1_11 : w1.heap.size + 1 < w2.heap.size + 1 := by omega)
    (try have hN2_1_12 : w1.heap.size + 1 < w2.heap.size + 1 + 1 := by omega)
    (try have hN2_1_20 : w1.heap.size + 1 + 1 < w2.heap.size := by omega)
    (try have hN2_1_21 : w1.heap.size + 1 + 1 < w2.heap.size + 1 := by omega)
    (try have hN2_1_22 : w1.heap.size + 1 + 1 < w2.heap.size + 1 + 1 := by omega)
    (try have hL2_1 : w1.heap.size ≤ w2.heap.size := by omega)
    (try have hS2_1 : w1.heap.size < w2.heap.size := by omega)
    (try have hS2_1' : w1.heap.size + 1 < w2.heap.size := by omega)
    go_wp2_with fail
    (refine bodyPost_ret (v := .tuple #[.agg #[.int .i64 0, .int .i64 0, .int .i64 0], .agg #[.int .i64 0, .int .i64 0, .int .i64 0, .int .i64 0], .bool false]) (by go_light; simp [results, Try.results28, go_sem, *]) rfl ⟨⟨(0, 0, 0), (0, 0, 0, 0), false, rfl, .inr ⟨HI.out, rfl, rfl, rfl⟩⟩, ?_⟩; repeat (first | with_reducible exact Below.refl _ _ | with_reducible assumption | ((with_reducible refine blA ?_ ?_); (focus (first | omega | (simp <;> omega)))) | (with_reducible refine blD ?_) | (with_reducible refine blN ?_) | ((with_reducible refine blS ?_ ?_); (focus (first | omega | (simp <;> omega)))) | ((with_reducible refine blT (by assumption) ?_ ?_); (focus (first | omega | (simp <;> omega))))))
set_option maxHeartbeats 4000000 in
theorem implSameCycle_any (a b c a' b' c' : Int) (w : World) : Calls Try.prog 22 #[.agg #[.int .i64 a, .int .i64 b, .int .i64 c], .agg #[.int .i64 a', .int .i64 b', .int .i64 c']] w fun e w' => (∃ s ok : Bool, e = .returned (.tuple #[.bool s, .bool ok]) ∧ SC (a, b, c) (a', b', c') s ok) ∧ Below w.heap.size w w' := by
  go_enter Try.func22, Try.ntmps22
  go_wp2_with fail
  refine (implReduce_any a b c _).mono ?_
  rintro e1 x1 ⟨⟨⟨g1, g2, g3⟩, ⟨m1, m2, m3, m4⟩, o1, rfl, hR1⟩, hB1⟩
  obtain ⟨hC1, hF1⟩ := bcell hB1
  have hz1 := hB1.size
  (try simp at hz1)
  have l1 : w.heap.size < x1.heap.size := by omega
  have l1' : w.heap.size + 1 < x1.heap.size := by omega
  have HR1 := Lib.hid hR1
  have HB1 := Lib.hid (show Below w.heap.size w x1 by repeat (first | with_reducible exact Below.refl _ _ | with_reducible assumption | ((with_reducible refine blA ?_ ?_); (focus (first | omega | (simp <;> omega)))) | (with_reducible refine blD ?_) | (with_reducible refine blN ?_) | ((with_reducible refine blS ?_ ?_); (focus (first | omega | (simp <;> omega)))) | ((with_reducible refine blT (by assumption) ?_ ?_); (focus (first | omega | (simp <;> omega))))))
  clear hR1
  go_wp2_with fail
  refine (implReduce_any a' b' c' _).mono ?_
  rintro e2 x2 ⟨⟨⟨h1, h2, h3⟩, ⟨n1, n2, n3, n4⟩, o2, rfl, hR2⟩, hB2⟩
  obtain ⟨hC2, hF2⟩ := bcell hB2
  have hz2 := hB2.size
  (try simp at hz2)
  have HR2 := Lib.hid hR2
  have HB2 := Lib.hid (show Below w.heap.size w x2 by have hX := HB1.out; repeat (first | with_reducible exact Below.refl _ _ | with_reducible assumption | ((with_reducible refine blA ?_ ?_); (focus (first | omega | (simp <;> omega)))) | (with_reducible refine blD ?_) | (with_reducible refine blN ?_) | ((with_reducible refine blS ?_ ?_); (focus (first | omega | (simp <;> omega)))) | ((with_reducible refine blT (by assumption) ?_ ?_); (focus (first | omega | (simp <;> omega))))))
  have k1 : x1.heap.size < x2.heap.size := by omega
  have k2 : x1.heap.size + 1 < x2.heap.size := by omega
  have k3 := HB2.out.size
  have c6 : ∀ o, x2.cell? ⟨x1.heap.size, o, none⟩ = (#[.int .i64 g1, .int .i64 g2, .int .i64 g3] : Array Value)[o]? := by (intro o; (repeat (first | ((with_reducible refine (cell_alloc_old _ _ _ _ ?_).trans ?_); (focus (first | omega | (simp <;> omega)))) | ((with_reducible refine (bC (by assumption) ?_).trans ?_); (focus (first | omega | (simp <;> omega)))) | ((with_reducible refine (bG (by assumption) ?_).trans ?_); (focus (first | omega | (simp <;> omega)))))); simp [go_sem])
  have k4 : x1.heap.size < x2.heap.size + 1 + 1 := by omega
  have k5 : x1.heap.size < x2.heap.size + 1 := by omega
  clear hC2
  clear hR2 hB1 hC1 hF1 hB2 hF2
  cases o1 with
  | false =>
    go_wp2_with fail
    refine bodyPost_ret (v := .tuple #[.bool false, .bool false]) (by go_light; simp [results, Try.results22, go_sem]) rfl ?_
    refine ⟨⟨false, false, rfl, _, _, _, _, _, _, HR1.out, HR2.out, rfl, fun _ => rfl, fun h => by cases h⟩, ?_⟩
    have hX := HB2.out
    repeat (first | with_reducible exact Below.refl _ _ | with_reducible assumption | ((with_reducible refine blA ?_ ?_); (focus (first | omega | (simp <;> omega)))) | (with_reducible refine blD ?_) | (with_reducible refine blN ?_) | ((with_reducible refine blS ?_ ?_); (focus (first | omega | (simp <;> omega)))) | ((with_reducible refine blT (by assumption) ?_ ?_); (focus (first | omega | (simp <;> omega)))))
  | true =>
    cases o2 with
    | false =>
      go_wp2_with fail
      refine bodyPost_ret (v := .tuple #[.bool false, .bool false]) (by go_light; simp [results, Try.results22, go_sem]) rfl ?_
      refine ⟨⟨false, false, rfl, _, _, _, _, _, _, HR1.out, HR2.out, rfl, fun _ => rfl, fun h => by cases h⟩, ?_⟩
      have hX := HB2.out
      repeat (first | with_reducible exact Below.refl _ _ | with_reducible assumption | ((with_reducible refine blA ?_ ?_); (focus (first | omega | (simp <;> omega)))) | (with_reducible refine blD ?_) | (with_reducible refine blN ?_) | ((with_reducible refine blS ?_ ?_); (focus (first | omega | (simp <;> omega)))) | ((with_reducible refine blT (by assumption) ?_ ?_); (focus (first | omega | (simp <;> omega)))))
    | true =>
      obtain ⟨_, q1, q2, _, _, _⟩ := HR1.out.good rfl
      obtain ⟨n, hn⟩ := ci_of q1 q2
      have hcyc := Lib.hid fun w0 => cycle_any _ _ n g1 g2 g3 w0 hn
      have HN := Lib.hid hn
      have hlen : Hid ((cyc (isqrt (discW a b c)) n (g1, g2, g3)).length ≤ 1000000) := Lib.hid (by rw [cyc_length]; have := HN.out.n2; omega)
      clear q1 q2 hn
      obtain ⟨L, hL⟩ : ∃ L, cyc (isqrt (discW a b c)) n (g1, g2, g3) = L := ⟨_, rfl⟩
      rw [hL] at hlen
      simp only [hL] at hcyc
      have HL := Lib.hid hL
      clear hL
      go_wp2_with fail
      refine region_mix 4 [0, 2] [(false, 1), (false, 3)] (by kernel_rfl) (by kernel_rfl) (by kernel_rfl) ?_
      apply Exists.intro
      refine ⟨fun w0 hw0 => ?_, ?_⟩
      · obtain ⟨hC0, hF0⟩ := bcell hw0
        have hS0 := hw0.size
        (try simp at hS0)
        (try have hS0_w0 : w.heap.size < w0.heap.size := by omega)
        (try have hS0_w1 : w.heap.size + 1 < w0.heap.size := by omega)
        (try have hS0_w2 : w.heap.size + 1 + 1 < w0.heap.size := by omega)
        (try have hS0_w3 : w.heap.size + 1 + 1 + 1 < w0.heap.size := by omega)
        (try have hS0_w4 : w.heap.size + 1 + 1 + 1 + 1 < w0.heap.size := by omega)
        (try have hL0_w0 : w.heap.size ≤ w0.heap.size := by omega)
        (try have hL0_w1 : w.heap.size + 1 ≤ w0.heap.size := by omega)
        (try have hL0_w2 : w.heap.size + 1 + 1 ≤ w0.heap.size := by omega)
        (try have hL0_w3 : w.heap.size + 1 + 1 + 1 ≤ w0.heap.size := by omega)
        (try have hL0_w : w.heap.size ≤ w0.heap.size + 1 := by omega)
        (try have hM0_1 : w.heap.size < w0.heap.size + 1 := by omega)
        (try have hM0_2 : w.heap.size < w0.heap.size + 1 + 1 := by omega)
        (try have hM0_3 : w.heap.size < w0.heap.size + 1 + 1 + 1 := by omega)
        have hS0x : x1.heap.size < w0.heap.size := (by omega); have hS0y : x2.heap.size < w0.heap.size := (by omega)
        simp only [List.filterMap_cons, List.filterMap_nil, List.getElem?_cons_zero, List.getElem?_cons_succ]
        show wpQuiet _ _ _ _ [_, _] _
        repeat (first | go_big_quiet_skip | (go_big_quiet_want; go_big_quiet_op; first | go_big_quiet_on | (apply Exists.intro; refine ⟨fun _ => ?_, ?_⟩; (focus (fail)); go_big_quiet_on)))
        refine wpQuiet_nil ?_
        rfl
      intro W hW hWz
      simp only [List.filterMap_cons, List.filterMap_nil, List.getElem?_cons_zero, List.getElem?_cons_succ, Option.map_some, List.drop_succ_cons, List.drop_zero]
      show effW _ _ _ _ [(false, _), (false, _)] _ _
      refine effM_of fun wa hBa => ?_
      have hza := hBa.size
      try simp at hza
      go_wp2_with fail
      refine (hcyc.out _).mono ?_
      rintro e3 wb ⟨⟨v, rfl, hr⟩, hBb⟩
      obtain ⟨va, vc, hv, hvc, _, hsee⟩ := hr.sees c3_len
      subst hv
      have HS := Lib.hid hsee
      have hzb := hBb.size
      clear hsee hr hvc
      go_wp2
      refine effQ_of rfl (by repeat (first | with_reducible exact Below.refl _ _ | with_reducible assumption | ((with_reducible refine blA ?_ ?_); (focus (first | omega | (simp <;> omega)))) | (with_reducible refine blD ?_) | (with_reducible refine blN ?_) | ((with_reducible refine blS ?_ ?_); (focus (first | omega | (simp <;> omega)))) | ((with_reducible refine blT (by assumption) ?_ ?_); (focus (first | omega | (simp <;> omega)))))) ?_
      refine effM_of fun wc hBc => ?_
      have hzc := hBc.size
      try simp at hzc
      go_wp2_with fail
      refine (hasForm_any L (h1, h2, h3) va vc _ _ (HS.out.below hBc) hlen.out).mono ?_
      rintro e4 wd ⟨rfl, hBd⟩
      have hzd := hBd.size
      go_wp2
      refine effQ_of rfl (by repeat (first | with_reducible exact Below.refl _ _ | with_reducible assumption | ((with_reducible refine blA ?_ ?_); (focus (first | omega | (simp <;> omega)))) | (with_reducible refine blD ?_) | (with_reducible refine blN ?_) | ((with_reducible refine blS ?_ ?_); (focus (first | omega | (simp <;> omega)))) | ((with_reducible refine blT (by assumption) ?_ ?_); (focus (first | omega | (simp <;> omega)))))) ?_
      intro wl hwl
      have hBl := past_below hwl
      clear hwl
      go_wp2_with fail
      refine bodyPost_ret (v := .tuple #[.bool (decide ((h1, h2, h3) ∈ L)), .bool true]) (by go_light; simp [results, Try.results22, go_sem]) rfl ?_
      refine ⟨⟨decide ((h1, h2, h3) ∈ L), true, rfl, _, _, _, _, _, _, HR1.out, HR2.out, rfl, (fun h => by cases h), fun _ => ?_⟩, ?_⟩
      · rw [inC_cyc HN.out]
        show _ ↔ _ ∈ cyc (isqrt (discW a b c)) n (g1, g2, g3)
        rw [HL.out]
        simp
      · have hX := HB2.out
        (try simp at hWz)
        have hY : Below x2.heap.size x2 wl := by repeat (first | with_reducible exact Below.refl _ _ | with_reducible assumption | ((with_reducible refine blA ?_ ?_); (focus (first | omega | (simp <;> omega)))) | (with_reducible refine blD ?_) | (with_reducible refine blN ?_) | ((with_reducible refine blS ?_ ?_); (focus (first | omega | (simp <;> omega)))) | ((with_reducible refine blT (by assumption) ?_ ?_); (focus (first | omega | (simp <;> omega)))))
        exact hX.trans (hY.mono hX.size)
end Go.Proofs.Ytemnkfigjpphgaa
