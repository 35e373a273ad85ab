/-
  PrincipalIdeal, and the walk of its law.
-/
import Derived.Test.YtladcjoiaoaedaaPrinM
import Derived.Test.YtladcjoiaoaedaaSpan
import Derived.Test.YtladcjoiaoaedaaIdealH
import Derived.Test.YtladcjoiaoaedaaMix
namespace Go.Proofs.Ytladcjoiaoaedaa
open Go.RowKit
attribute [local simp, local go_sem] past_cell past_frozen past_tape
theorem hermT (l : List (Int × Int)) (g c : Nat) (w : World) (a b d : Int) (hl : l.length ≤ 1000) (hg : g < w.heap.size) (hc : ∀ k, k < l.length → w.cell? ⟨g, k * 2, none⟩ = some (.int .i64 ((l.getD k (0, 0)).1)) ∧ w.cell? ⟨g, k * 2 + 1, none⟩ = some (.int .i64 ((l.getD k (0, 0)).2)))
    (hfit : ∀ k, k < l.length → FitI ((l.take k).foldl hStep (0, 0, 0)).1 ((l.take k).foldl hStep (0, 0, 0)) (l.getD k (0, 0))) (hfin : l.foldl hStep (0, 0, 0) = (a, b, d)) (ha : a ≠ 0) (hd : d ≠ 0) :
    Calls Try.prog 104 #[.slice (some ⟨g, 0, none⟩) l.length c] w fun en w' => en = .returned (.tuple #[.int .i64 a, .int .i64 (bN a b d), .int .i64 (d.natAbs : Int), .bool true]) ∧ Below w.heap.size w w' :=
  (hermite_any l g c w hl hg hc hfit).mono fun _ _ ⟨he, hb⟩ => ⟨by
    rw [he, hfin]
    have e1 : hR1 a d = a := by simp [hR1, ha, hd]
    have e2 : hR2 a b d = bN a b d := by simp [hR2, bN, ha, hd]
    have e3 : hR3 a d = (d.natAbs : Int) := by unfold hR3; rw [if_neg (by omega)]; split <;> omega
    have e4 : hRok a d = true := by simp [hRok, ha, hd]
    simp only [e1, e2, e3, e4], hb⟩
/-- The ideal's numbers. -/
def oA (a d : Int) : Int := a / (2 * (d.natAbs : Int))
def oB (a b d : Int) : Int := ((-(bN a b d)).tdiv (d.natAbs : Int)) % (2 * oA a d)
set_option maxRecDepth 100000 in
set_option maxHeartbeats 2000000 in
theorem idealOf_any (l : List (Int × Int)) (g c : Nat) (w : World) (a b d : Int) (hl : l.length ≤ 1000) (hg : g < w.heap.size) (hc : ∀ k, k < l.length → w.cell? ⟨g, k * 2, none⟩ = some (.int .i64 ((l.getD k (0, 0)).1)) ∧ w.cell? ⟨g, k * 2 + 1, none⟩ = some (.int .i64 ((l.getD k (0, 0)).2)))
    (hfit : ∀ k, k < l.length → FitI ((l.take k).foldl hStep (0, 0, 0)).1 ((l.take k).foldl hStep (0, 0, 0)) (l.getD k (0, 0))) (hfin : l.foldl hStep (0, 0, 0) = (a, b, d)) (hn : Nice a b d) (ha : a ≤ 4000000000000000000) (hb : 0 ≤ bN a b d ∧ bN a b d < a) (h1 : 1 ≤ oA a d) (hd : (d.natAbs : Int) ≤ 4000000000000000000) :
    Calls Try.prog 79 #[.slice (some ⟨g, 0, none⟩) l.length c] w fun en w' => en = .returned (.agg #[.int .i64 (d.natAbs : Int), .int .i64 (oA a d), .int .i64 (oB a b d)]) ∧ Below w.heap.size w w' := by
  have hcall : Hid (∀ w1, Below w.heap.size w w1 → Calls Try.prog 104 #[.slice (some ⟨g, 0, none⟩) l.length c] w1 fun en w' => en = .returned (.tuple #[.int .i64 a, .int .i64 (bN a b d), .int .i64 (d.natAbs : Int), .bool true]) ∧ Below w1.heap.size w1 w') := fun w1 hB =>
    hermT l g c w1 a b d hl (by have := hB.size; omega) (fun k hk => by rw [bG hB hg, bG hB hg]; exact hc k hk) hfit hfin (by have := hn.a0; omega) hn.d0
  have e0 : 0 < (d.natAbs : Int) := by have := hn.d0; omega
  have hA : Hid (oA a d = a / (d.natAbs : Int) / 2) := by show _ = _; rw [oA, Int.mul_comm, Int.ediv_ediv_of_nonneg (by omega)]
  have hq1 : 0 ≤ a / (d.natAbs : Int) := Int.ediv_nonneg (by have := hn.a0; omega) (by omega)
  have hq2 : a / (d.natAbs : Int) ≤ a := Int.ediv_le_self _ (by have := hn.a0; omega)
  have hB : Hid (oB a b d = (-((bN a b d).tdiv (d.natAbs : Int))) % (2 * (a / (d.natAbs : Int) / 2))) := by
    show _ = _
    rw [oB, hA.out, Int.neg_tdiv]
  obtain ⟨hq3, hq4⟩ := tdiv_bd (d.natAbs : Int) (show Bd 4000000000000000000 (bN a b d) from ⟨by omega, by omega⟩)
  have hA1 : 1 ≤ a / (d.natAbs : Int) / 2 := by rw [← hA.out]; exact h1
  have ha0 := hn.a0
  obtain ⟨hb1, hb2⟩ := hb
  clear hc hfit hfin hn h1
  have HB := Lib.hid (Below.refl w.heap.size w)
  generalize oA a d = A at *
  generalize oB a b d = B at *
  generalize bN a b d = b' at *
  generalize (d.natAbs : Int) = e at *
  go_enter Try.func79, Try.ntmps79
  go_wp2_with fail
  refine (hcall.out _ ((Below.refl _ _).alloc (Nat.le_refl _) _)).mono ?_
  rintro e1 wa ⟨rfl, hBa⟩
  have hSa := hBa.size
  simp at hSa
  have hRa : ∀ o, wa.cell? ⟨w.heap.size, o, none⟩ = (#[.int .i64 0, .int .i64 0, .int .i64 0] : Array Value)[o]? := fun o => by rw [bG hBa (by simp)]; simp [go_sem]
  have hFa : ∀ o, wa.frozen? ⟨w.heap.size, o, none⟩ = false := fun o => by rw [fG hBa (by simp)]; simp [go_sem]
  go_wp2_with fail
  refine wp_region_past_tail 9 (by kernel_rfl) (by kernel_rfl) ?_
  simp only [List.take_succ_cons, List.take_zero, List.drop_succ_cons, List.drop_zero]
  repeat (first | go_big_quiet_skip | (go_big_quiet_want; go_big_quiet_op; first | go_big_quiet_on | (apply Exists.intro; refine ⟨fun _ => ?_, ?_⟩; (focus ((go_at_call 78; exact past_same (mod_any _ _ _ ⟨by omega, by omega⟩ (by omega) (by omega))))); go_big_quiet_on)))
  refine wpQuiet_nil ?_
  intro w1 hw'
  have hB1 := past_below hw'
  clear hw'
  obtain ⟨hC1, hF1⟩ := bcell hB1
  have hS1 := hB1.size
  (try simp at hS1)
  (try have hS1_w0 : w.heap.size < w1.heap.size := by omega)
  (try have hS1_w1 : w.heap.size + 1 < w1.heap.size := by omega)
  (try have hS1_w2 : w.heap.size + 1 + 1 < w1.heap.size := by omega)
  (try have hS1_w3 : w.heap.size + 1 + 1 + 1 < w1.heap.size := by omega)
  (try have hS1_w4 : w.heap.size + 1 + 1 + 1 + 1 < w1.heap.size := by omega)
  have hz1 : wa.heap.size < w1.heap.size := by omega
  have hz2 : w.heap.size < wa.heap.size := by omega
  have hz3 : w.heap.size < w1.heap.size := by omega
  go_wp2
  have hRw : ∀ o, w1.cell? ⟨w.heap.size, o, none⟩ = (#[.int .i64 0, .int .i64 0, .int .i64 0] : Array Value)[o]? := fun o => by rw [hC1 _ o (by simp; omega), cell_alloc_old _ _ _ _ hz2, hRa]
  have hXw : ∀ o, w1.cell? ⟨wa.heap.size, o, none⟩ = (#[.int .i64 e, .int .i64 (a / e / 2), .int .i64 0] : Array Value)[o]? := fun o => by rw [hC1 _ o (by simp)]; simp [go_sem]
  have hn1 : ¬ wa.heap.size = w.heap.size := by omega
  have hn2 : ¬ w.heap.size = wa.heap.size := by omega
  refine bodyPost_ret (v := .agg #[.int .i64 e, .int .i64 (a / e / 2), .int .i64 ((-b'.tdiv e) % (2 * (a / e / 2)))]) (by go_light; (try clear hC14); (try clear hF14); (try clear hB14); (try clear hC13); (try clear hF13); (try clear hB13); (try clear hC12); (try clear hF12); (try clear hB12); (try clear hC11); (try clear hF11); (try clear hB11); (try clear hC10); (try clear hF10); (try clear hB10); (try clear hC9); (try clear hF9); (try clear hB9); (try clear hC8); (try clear hF8); (try clear hB8); (try clear hC7); (try clear hF7); (try clear hB7); (try clear hC6); (try clear hF6); (try clear hB6); (try clear hC5); (try clear hF5); (try clear hB5); (try clear hC4); (try clear hF4); (try clear hB4); (try clear hC3); (try clear hF3); (try clear hB3); (try clear hC2); (try clear hF2); (try clear hB2); (try clear hC1); (try clear hF1); (try clear hB1); simp [results, Try.results79, go_sem, hRw, hXw, hn1, hn2, hz1, hz2, hz3]) rfl ⟨by go_light; rw [hA.out, hB.out], ?_⟩
  repeat (first | with_reducible exact Below.refl _ _ | with_reducible assumption | ((with_reducible refine blA ?_ ?_); (focus (first | omega | (simp <;> omega)))) | (with_reducible refine blD ?_) | (with_reducible refine blN ?_) | ((with_reducible refine blS ?_ ?_); (focus (first | omega | (simp <;> omega)))) | ((with_reducible refine blT (by assumption) ?_ ?_); (focus (first | omega | (simp <;> omega)))))
/-- The normal form of an element's ideal. -/
def prS (d u v : Int) : Int × Int × Int := hStep (hStep (0, 0, 0) (u, v)) (pr2 d u v, pr3 d u v)
def prT (d u v : Int) : Int × Int × Int := iStep (iStep (0, 0, 0) (u, v)) (pr2 d u v, pr3 d u v)
def pE (d u v : Int) : Int := ((prS d u v).2.2.natAbs : Int)
def pA (d u v : Int) : Int := oA (prS d u v).1 (prS d u v).2.2
def pB (d u v : Int) : Int := oB (prS d u v).1 (prS d u v).2.1 (prS d u v).2.2
structure PrF (d u v : Int) : Prop where
  u1 : Bd 1000000 u
  v1 : Bd 1000000 v
  du : Bd 1000000 (d % 2 * u)
  dv : Bd 2000000000 (d * v)
  rv : Bd 1000000 (d % 2 * v)
  p2 : Bd 1100000000 (pr2 d u v)
  p3 : Bd 1000000 (pr3 d u v)
  nice : Nice (prS d u v).1 (prS d u v).2.1 (prS d u v).2.2
  good : Good (prS d u v).1 (prS d u v).2.1 (prS d u v).2.2
  sim : Sim (prS d u v) (prT d u v)
theorem prF {d u v : Int} (hd : negB d = true) (he : elB d u v = true) (h0 : u ≠ 0 ∨ v ≠ 0) : PrF d u v := by
  obtain ⟨d1, d2, d3⟩ := negB_true hd
  obtain ⟨hu, hv⟩ := elB_bd he
  have hp := (of_decide_eq_true he).2
  have hr : Bd 1 (d % 2) := ⟨by omega, by omega⟩
  have e1 := mul_bd hr hu (show (1 : Int) * 1000000 ≤ 1000000 by decide)
  have e2 := mul_bd hr hv (show (1 : Int) * 1000000 ≤ 1000000 by decide)
  have e3 := mul_bd (show Bd 2000 d from ⟨by omega, by omega⟩) hv (show (2000 : Int) * 1000000 ≤ 2000000000 by decide)
  have g := gens_of (by omega) d3 hp h0
  have q2 : Bd 1100000000 (pr2 d u v) := by
    have := g.h1
    obtain ⟨a1, a2⟩ := e1
    obtain ⟨b1, b2⟩ := e3
    exact ⟨by omega, by omega⟩
  have q3 : Bd 1000000 (pr3 d u v) := by
    have := g.h2
    obtain ⟨a1, a2⟩ := e2
    obtain ⟨b1, b2⟩ := hu
    exact ⟨by omega, by omega⟩
  have f1 := fit_first hu hv
  have f2 := fit_second hu hv q2 q3 (Or.inl rfl)
  have g1 := good_step (a := 0) (b := 0) (d := 0) (v := (u, v)) ⟨by omega, by omega, ⟨by omega, by omega⟩, ⟨by omega, by omega⟩, fun h => absurd rfl h⟩ f1
  have g2 := good_step (v := (pr2 d u v, pr3 d u v)) g1 f2
  exact ⟨hu, hv, e1, e3, e2, q2, q3, gens_nice g, g2, sim_i [(u, v), (pr2 d u v, pr3 d u v)] sim_zero⟩
theorem pr_same {d u v : Int} (h : PrF d u v) : (prT d u v).2.2 ≠ 0 ∧ 1 ≤ (prT d u v).1 / (2 * ((prT d u v).2.2.natAbs : Int)) ∧ ((prT d u v).2.2.natAbs : Int) = pE d u v ∧ (prT d u v).1 / (2 * ((prT d u v).2.2.natAbs : Int)) = pA d u v ∧
    ((-(if (prT d u v).2.2 < 0 then -(prT d u v).2.1 else (prT d u v).2.1)).tdiv ((prT d u v).2.2.natAbs : Int)) % (2 * ((prT d u v).1 / (2 * ((prT d u v).2.2.natAbs : Int)))) = pB d u v ∧ 1 ≤ pA d u v ∧ 0 ≤ bN (prS d u v).1 (prS d u v).2.1 (prS d u v).2.2 ∧ bN (prS d u v).1 (prS d u v).2.1 (prS d u v).2.2 < (prS d u v).1 := by
  obtain ⟨h1, h2, h3, h4, h5, h6, h7⟩ := nice_same (n := (prT d u v).1) (U := (prT d u v).2.1) (V := (prT d u v).2.2) h.nice h.sim (h.good.r (by have := h.nice.a0; omega))
  refine ⟨h2, by rw [h1, h3]; exact h5, h3, by rw [h1, h3]; rfl, h4, h5, h7, h6⟩
theorem idealOf2 (d u v : Int) (g c : Nat) (w : World) (h : PrF d u v) (hg : g < w.heap.size) (c0 : w.cell? ⟨g, 0, none⟩ = some (.int .i64 u)) (c1 : w.cell? ⟨g, 1, none⟩ = some (.int .i64 v)) (c2 : w.cell? ⟨g, 2, none⟩ = some (.int .i64 (pr2 d u v))) (c3 : w.cell? ⟨g, 3, none⟩ = some (.int .i64 (pr3 d u v))) :
    Calls Try.prog 79 #[.slice (some ⟨g, 0, none⟩) 2 c] w fun en w' => en = .returned (.agg #[.int .i64 (pE d u v), .int .i64 (pA d u v), .int .i64 (pB d u v)]) ∧ Below w.heap.size w w' := by
  obtain ⟨_, _, _, _, _, s1, s2, s3⟩ := pr_same h
  exact idealOf_any [(u, v), (pr2 d u v, pr3 d u v)] g c w (prS d u v).1 (prS d u v).2.1 (prS d u v).2.2 (by simp) hg
    (fun k hk => match k, hk with | 0, _ => ⟨c0, c1⟩ | 1, _ => ⟨c2, c3⟩)
    (fun k hk => match k, hk with | 0, _ => fit_first h.u1 h.v1 | 1, _ => fit_second h.u1 h.v1 h.p2 h.p3 (Or.inl rfl))
    rfl h.nice h.good.a1 ⟨s2, s3⟩ s1 (by have := h.good.d; unfold K4 at this; omega)
set_option maxHeartbeats 1000000 in
theorem principal_any (d u v : Int) (w : World) (hd : negB d = true) (h : PrF d u v) :
    Calls Try.prog 64 #[.int .i64 d, .int .i64 u, .int .i64 v] w fun en w' => en = .returned (.agg #[.int .i64 (pE d u v), .int .i64 (pA d u v), .int .i64 (pB d u v)]) ∧ Below w.heap.size w w' := by
  obtain ⟨d1, d2, d3⟩ := negB_true hd
  obtain ⟨u1, u2⟩ := h.u1
  obtain ⟨v1, v2⟩ := h.v1
  obtain ⟨a1, a2⟩ := h.du
  obtain ⟨b1, b2⟩ := h.dv
  obtain ⟨k1, k2⟩ := h.rv
  have hq1 : Hid (pr2 d u v = (d % 2 * u + d * v).tdiv 2) := rfl
  have hq2 : Hid (pr3 d u v = (u + d % 2 * v).tdiv 2) := rfl
  go_enter Try.func64, Try.ntmps64
  go_wp2_with (go_at_call 78; refine (mod_any _ _ _ ⟨by omega, by omega⟩ (by omega) (by omega)).mono ?_; rintro e w' ⟨rfl, rfl⟩)
  refine (idealOf2 d u v _ _ _ h ?_ ?_ ?_ ?_ ?_).mono ?_
  · simp
  · simp [go_sem]
  · simp [go_sem]
  · rw [hq1.out]; simp [go_sem]
  · rw [hq2.out]; simp [go_sem]
  rintro e1 wa ⟨rfl, hBa⟩
  have hSa := hBa.size
  simp at hSa
  have hRa : ∀ o, wa.cell? ⟨w.heap.size, o, none⟩ = (#[.int .i64 0, .int .i64 0, .int .i64 0] : Array Value)[o]? := fun o => by rw [bG hBa (by simp; omega), cell_alloc_old _ _ _ _ (by simp)]; simp [go_sem]
  have hFa : ∀ o, wa.frozen? ⟨w.heap.size, o, none⟩ = false := fun o => by rw [fG hBa (by simp; omega), frozen_alloc_old _ _ _ _ (by simp)]; simp [go_sem]
  go_wp2
  refine bodyPost_ret (v := .agg #[.int .i64 (pE d u v), .int .i64 (pA d u v), .int .i64 (pB d u v)]) (by go_light; (try clear hC14); (try clear hF14); (try clear hB14); (try clear hC13); (try clear hF13); (try clear hB13); (try clear hC12); (try clear hF12); (try clear hB12); (try clear hC11); (try clear hF11); (try clear hB11); (try clear hC10); (try clear hF10); (try clear hB10); (try clear hC9); (try clear hF9); (try clear hB9); (try clear hC8); (try clear hF8); (try clear hB8); (try clear hC7); (try clear hF7); (try clear hB7); (try clear hC6); (try clear hF6); (try clear hB6); (try clear hC5); (try clear hF5); (try clear hB5); (try clear hC4); (try clear hF4); (try clear hB4); (try clear hC3); (try clear hF3); (try clear hB3); (try clear hC2); (try clear hF2); (try clear hB2); (try clear hC1); (try clear hF1); (try clear hB1); simp [results, Try.results64, go_sem, hRa]) rfl ⟨rfl, ?_⟩
  repeat (first | with_reducible exact Below.refl _ _ | with_reducible assumption | ((with_reducible refine blA ?_ ?_); (focus (first | omega | (simp <;> omega)))) | (with_reducible refine blD ?_) | (with_reducible refine blN ?_) | ((with_reducible refine blS ?_ ?_); (focus (first | omega | (simp <;> omega)))) | ((with_reducible refine blT (by assumption) ?_ ?_); (focus (first | omega | (simp <;> omega)))))
theorem validIdeal_any (d e a b : Int) (w : World) (hd : I64 d) :
    Calls Try.prog 84 #[.int .i64 d, .agg #[.int .i64 e, .int .i64 a, .int .i64 b]] w fun en w' => en = .returned (.tuple #[.agg #[.int .i64 (iz (idB d e a b) e), .int .i64 (iz (idB d e a b) a), .int .i64 (iz (idB d e a b) b)], .bool (idB d e a b)]) ∧ Below w.heap.size w w' := by
  by_cases c : idB d e a b = true
  · go_enter Try.func84, Try.ntmps84
    go_wp2_with (go_at_call 49; refine (isIdeal_any _ _ _ _ _ hd).mono ?_; rintro e w' ⟨rfl, hB⟩; obtain ⟨hC, hF⟩ := bcell hB; have hS := hB.size; (try simp at hS); (try have hSl := Nat.lt_of_succ_le hS); (try have hS0 : w.heap.size < w'.heap.size := by omega); (try have hS1 : w.heap.size + 1 < w'.heap.size := by omega); (try have hS2 : w.heap.size + 1 + 1 < w'.heap.size := by omega); (try have hS3 : w.heap.size + 1 + 1 + 1 < w'.heap.size := by omega))
    (refine bodyPost_ret (v := .tuple #[.agg #[.int .i64 e, .int .i64 a, .int .i64 b], .bool true]) ?_ rfl ⟨?_, ?_⟩; (focus (go_light; first | (simp [results, Try.results84, go_sem, *]; done) | (simp (disch := first | omega | (simp <;> omega) | (refine isSome_of ?_ ?_; (focus ((repeat (first | ((with_reducible refine (cell_alloc_old _ _ _ _ ?_).trans ?_); (focus (first | omega | (simp <;> omega)))) | ((with_reducible refine (bG (by assumption) ?_).trans ?_); (focus (first | omega | (simp <;> omega)))))); exact rfl)); simp [go_sem]) | fail) [results, Try.results84, go_sem, *]; done))); (focus (go_light; rw [c]; rfl)); repeat (first | with_reducible exact Below.refl _ _ | with_reducible assumption | ((with_reducible refine blA ?_ ?_); (focus (first | omega | (simp <;> omega)))) | (with_reducible refine blD ?_) | (with_reducible refine blN ?_) | ((with_reducible refine blS ?_ ?_); (focus (first | omega | (simp <;> omega)))) | ((with_reducible refine blT (by assumption) ?_ ?_); (focus (first | omega | (simp <;> omega))))))
  · have c' : idB d e a b = false := by simpa using c
    clear c
    go_enter Try.func84, Try.ntmps84
    go_wp2_with (go_at_call 49; refine (isIdeal_any _ _ _ _ _ hd).mono ?_; rintro e w' ⟨rfl, hB⟩; obtain ⟨hC, hF⟩ := bcell hB; have hS := hB.size; (try simp at hS); (try have hSl := Nat.lt_of_succ_le hS); (try have hS0 : w.heap.size < w'.heap.size := by omega); (try have hS1 : w.heap.size + 1 < w'.heap.size := by omega); (try have hS2 : w.heap.size + 1 + 1 < w'.heap.size := by omega); (try have hS3 : w.heap.size + 1 + 1 + 1 < w'.heap.size := by omega))
    (refine bodyPost_ret (v := .tuple #[.agg #[.int .i64 0, .int .i64 0, .int .i64 0], .bool false]) ?_ rfl ⟨?_, ?_⟩; (focus (go_light; first | (simp [results, Try.results84, go_sem, *]; done) | (simp (disch := first | omega | (simp <;> omega) | (refine isSome_of ?_ ?_; (focus ((repeat (first | ((with_reducible refine (cell_alloc_old _ _ _ _ ?_).trans ?_); (focus (first | omega | (simp <;> omega)))) | ((with_reducible refine (bG (by assumption) ?_).trans ?_); (focus (first | omega | (simp <;> omega)))))); exact rfl)); simp [go_sem]) | fail) [results, Try.results84, go_sem, *]; done))); (focus (go_light; rw [c']; rfl)); repeat (first | with_reducible exact Below.refl _ _ | with_reducible assumption | ((with_reducible refine blA ?_ ?_); (focus (first | omega | (simp <;> omega)))) | (with_reducible refine blD ?_) | (with_reducible refine blN ?_) | ((with_reducible refine blS ?_ ?_); (focus (first | omega | (simp <;> omega)))) | ((with_reducible refine blT (by assumption) ?_ ?_); (focus (first | omega | (simp <;> omega))))))
theorem idIf_any (d e a b : Int) (w : World) (hd : I64 d) :
    Calls Try.prog 55 #[.int .i64 d, .agg #[.int .i64 e, .int .i64 a, .int .i64 b]] w fun en w' => en = .returned (.tuple #[.agg #[.int .i64 (iz (idB d e a b) e), .int .i64 (iz (idB d e a b) a), .int .i64 (iz (idB d e a b) b)], .bool (idB d e a b)]) ∧ Below w.heap.size w w' := by
  by_cases c : idB d e a b = true
  · go_enter Try.func55, Try.ntmps55
    go_wp2_with (go_at_call 46; refine (idGood_any _ _ _ _ _ hd).mono ?_; rintro e w' ⟨rfl, hB⟩; obtain ⟨hC, hF⟩ := bcell hB; have hS := hB.size; (try simp at hS); (try have hSl := Nat.lt_of_succ_le hS); (try have hS0 : w.heap.size < w'.heap.size := by omega); (try have hS1 : w.heap.size + 1 < w'.heap.size := by omega); (try have hS2 : w.heap.size + 1 + 1 < w'.heap.size := by omega); (try have hS3 : w.heap.size + 1 + 1 + 1 < w'.heap.size := by omega))
    (refine bodyPost_ret (v := .tuple #[.agg #[.int .i64 e, .int .i64 a, .int .i64 b], .bool true]) ?_ rfl ⟨?_, ?_⟩; (focus (go_light; first | (simp [results, Try.results55, go_sem, *]; done) | (simp (disch := first | omega | (simp <;> omega) | (refine isSome_of ?_ ?_; (focus ((repeat (first | ((with_reducible refine (cell_alloc_old _ _ _ _ ?_).trans ?_); (focus (first | omega | (simp <;> omega)))) | ((with_reducible refine (bG (by assumption) ?_).trans ?_); (focus (first | omega | (simp <;> omega)))))); exact rfl)); simp [go_sem]) | fail) [results, Try.results55, go_sem, *]; done))); (focus (go_light; rw [c]; rfl)); repeat (first | with_reducible exact Below.refl _ _ | with_reducible assumption | ((with_reducible refine blA ?_ ?_); (focus (first | omega | (simp <;> omega)))) | (with_reducible refine blD ?_) | (with_reducible refine blN ?_) | ((with_reducible refine blS ?_ ?_); (focus (first | omega | (simp <;> omega)))) | ((with_reducible refine blT (by assumption) ?_ ?_); (focus (first | omega | (simp <;> omega))))))
  · have c' : idB d e a b = false := by simpa using c
    clear c
    go_enter Try.func55, Try.ntmps55
    go_wp2_with (go_at_call 46; refine (idGood_any _ _ _ _ _ hd).mono ?_; rintro e w' ⟨rfl, hB⟩; obtain ⟨hC, hF⟩ := bcell hB; have hS := hB.size; (try simp at hS); (try have hSl := Nat.lt_of_succ_le hS); (try have hS0 : w.heap.size < w'.heap.size := by omega); (try have hS1 : w.heap.size + 1 < w'.heap.size := by omega); (try have hS2 : w.heap.size + 1 + 1 < w'.heap.size := by omega); (try have hS3 : w.heap.size + 1 + 1 + 1 < w'.heap.size := by omega))
    (refine bodyPost_ret (v := .tuple #[.agg #[.int .i64 0, .int .i64 0, .int .i64 0], .bool false]) ?_ rfl ⟨?_, ?_⟩; (focus (go_light; first | (simp [results, Try.results55, go_sem, *]; done) | (simp (disch := first | omega | (simp <;> omega) | (refine isSome_of ?_ ?_; (focus ((repeat (first | ((with_reducible refine (cell_alloc_old _ _ _ _ ?_).trans ?_); (focus (first | omega | (simp <;> omega)))) | ((with_reducible refine (bG (by assumption) ?_).trans ?_); (focus (first | omega | (simp <;> omega)))))); exact rfl)); simp [go_sem]) | fail) [results, Try.results55, go_sem, *]; done))); (focus (go_light; rw [c']; rfl)); repeat (first | with_reducible exact Below.refl _ _ | with_reducible assumption | ((with_reducible refine blA ?_ ?_); (focus (first | omega | (simp <;> omega)))) | (with_reducible refine blD ?_) | (with_reducible refine blN ?_) | ((with_reducible refine blS ?_ ?_); (focus (first | omega | (simp <;> omega)))) | ((with_reducible refine blT (by assumption) ?_ ?_); (focus (first | omega | (simp <;> omega))))))
theorem idMul_any (d u v : Int) (w : World) (h : PrF d u v) :
    Calls Try.prog 76 #[.int .i64 d, .agg #[.int .i64 u, .int .i64 v], .agg #[.int .i64 (d % 2), .int .i64 1]] w fun en w' => en = .returned (.agg #[.int .i64 (pr2 d u v), .int .i64 (pr3 d u v)]) ∧ Below w.heap.size w w' := by
  obtain ⟨u1, u2⟩ := h.u1
  obtain ⟨v1, v2⟩ := h.v1
  obtain ⟨b1, b2⟩ := h.dv
  have a1 := h.du.1
  have a2 := h.du.2
  have k1 := h.rv.1
  have k2 := h.rv.2
  rw [Int.mul_comm] at a1 a2 k1 k2
  have hq1 : Hid (pr2 d u v = (u * (d % 2) + d * v).tdiv 2) := by show _ = _; rw [pr2, Int.mul_comm (d % 2)]
  have hq2 : Hid (pr3 d u v = (u + v * (d % 2)).tdiv 2) := by show _ = _; rw [pr3, Int.mul_comm (d % 2)]
  go_enter Try.func76, Try.ntmps76
  go_wp2
  (refine bodyPost_ret (v := .agg #[.int .i64 ((u * (d % 2) + d * v).tdiv 2), .int .i64 ((u + v * (d % 2)).tdiv 2)]) ?_ rfl ⟨?_, ?_⟩; (focus (go_light; first | (simp [results, Try.results76, go_sem, *]; done) | (simp (disch := first | omega | (simp <;> omega) | (refine isSome_of ?_ ?_; (focus ((repeat (first | ((with_reducible refine (cell_alloc_old _ _ _ _ ?_).trans ?_); (focus (first | omega | (simp <;> omega)))) | ((with_reducible refine (bG (by assumption) ?_).trans ?_); (focus (first | omega | (simp <;> omega)))))); exact rfl)); simp [go_sem]) | fail) [results, Try.results76, go_sem, *]; done))); (focus (go_light; rw [hq1.out, hq2.out])); repeat (first | with_reducible exact Below.refl _ _ | with_reducible assumption | ((with_reducible refine blA ?_ ?_); (focus (first | omega | (simp <;> omega)))) | (with_reducible refine blD ?_) | (with_reducible refine blN ?_) | ((with_reducible refine blS ?_ ?_); (focus (first | omega | (simp <;> omega)))) | ((with_reducible refine blT (by assumption) ?_ ?_); (focus (first | omega | (simp <;> omega))))))
theorem idSpan2 (d u v : Int) (g c : Nat) (w : World) (h : PrF d u v) (hg : g < w.heap.size) (c0 : w.cell? ⟨g, 0, none⟩ = some (.int .i64 u)) (c1 : w.cell? ⟨g, 1, none⟩ = some (.int .i64 v)) (c2 : w.cell? ⟨g, 2, none⟩ = some (.int .i64 (pr2 d u v))) (c3 : w.cell? ⟨g, 3, none⟩ = some (.int .i64 (pr3 d u v))) :
    Calls Try.prog 77 #[.slice (some ⟨g, 0, none⟩) 2 c] w fun en w' => en = .returned (.agg #[.int .i64 (pE d u v), .int .i64 (pA d u v), .int .i64 (pB d u v)]) ∧ Below w.heap.size w w' := by
  obtain ⟨t1, t2, t3, t4, t5, _⟩ := pr_same h
  have fs : FitI 0 (iStep (0, 0, 0) (u, v)) (pr2 d u v, pr3 d u v) := by
    rw [iStep_first]
    exact fit_second h.u1 h.v1 h.p2 h.p3 (m := 0) (Or.inr rfl)
  have := idSpan_any [(u, v), (pr2 d u v, pr3 d u v)] g c w (prT d u v).1 (prT d u v).2.1 (prT d u v).2.2 (by simp) hg
    (fun k hk => match k, hk with | 0, _ => ⟨c0, c1⟩ | 1, _ => ⟨c2, c3⟩)
    (fun k hk => match k, hk with | 0, _ => fit_first h.u1 h.v1 | 1, _ => fs)
    rfl t1 t2
  rw [t5, t4, t3] at this
  exact this
end Go.Proofs.Ytladcjoiaoaedaa
