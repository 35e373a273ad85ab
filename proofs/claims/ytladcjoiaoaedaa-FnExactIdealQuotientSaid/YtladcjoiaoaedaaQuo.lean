/-
  IdealQuotient: both ways, and the law. Printed by mkquo.py.
-/
import Derived.Test.YtladcjoiaoaedaaPow
namespace Go.Proofs.Ytladcjoiaoaedaa
open Go.RowKit
attribute [local simp, local go_sem] past_cell past_frozen past_tape
/-- The conjugate's last number, and the norm. -/
def cjB (a b : Int) : Int := (-b) % (2 * a)
def nmI (e a : Int) : Int := e * e * a
theorem idB_cj {d e a b : Int} (h : idB d e a b = true) : idB d e a (cjB a b) = true := by
  obtain ⟨h1, h2, h3, h4, h5, h6, h7, h8⟩ := idB_true h
  have k0 := Int.emod_nonneg (-b) (show 2 * a ≠ 0 by omega)
  have k1 := Int.emod_lt_of_pos (-b) (show 0 < 2 * a by omega)
  unfold idB
  refine decide_eq_true ⟨h1, h2, h3, h4, h5, k0, k1, ?_⟩
  have e1 := Int.mul_ediv_add_emod (-b) (2 * a)
  have e2 : cjB a b = -b - 2 * a * (-b / (2 * a)) := by unfold cjB; omega
  rw [e2]
  generalize -b / (2 * a) = t
  obtain ⟨q, hq⟩ := Int.dvd_of_emod_eq_zero h8
  refine Int.emod_eq_zero_of_dvd ⟨q + b * t + a * t * t, ?_⟩
  grind
theorem nmI_bd {d e a b : Int} (h : idB d e a b = true) : 1 ≤ nmI e a ∧ nmI e a ≤ 1000000000000 ∧ Bd 100000000 (e * e) ∧ Bd 1000000000000 (e * e * a) ∧ 0 < nmI e a := by
  obtain ⟨h1, h2, h3, h4, h5, h6, h7, h8⟩ := idB_true h
  obtain ⟨m1, m2⟩ := mul_bd (show Bd 10000 e from ⟨by omega, by omega⟩) (show Bd 10000 e from ⟨by omega, by omega⟩) (show (10000 : Int) * 10000 ≤ 100000000 by decide)
  obtain ⟨m3, m4⟩ := mul_bd (show Bd 100000000 (e * e) from ⟨by omega, by omega⟩) (show Bd 10000 a from ⟨by omega, by omega⟩) (show (100000000 : Int) * 10000 ≤ 1000000000000 by decide)
  have p1 : 0 < e * e := Int.mul_pos (by omega) (by omega)
  have p2 : 0 < e * e * a := Int.mul_pos p1 (by omega)
  unfold nmI
  exact ⟨by omega, by omega, ⟨by omega, by omega⟩, ⟨by omega, by omega⟩, by omega⟩
theorem muE_bd {d e a b e' a' b' : Int} (h : idB d e a b = true) (h' : idB d e' a' b' = true) : 0 ≤ muE d e a b e' a' b' ∧ muE d e a b e' a' b' ≤ 2000000000000 := by
  obtain ⟨_, hE⟩ := mul_lf h h'
  obtain ⟨_, e0, e1, _⟩ := idB_true h
  obtain ⟨_, e0', e1', _⟩ := idB_true h'
  have hE0 : 0 ≤ lE (mulL d a b a' b') := by unfold lE; omega
  obtain ⟨x1, x2⟩ := mul_bd (show Bd 10000 e from ⟨by omega, by omega⟩) (show Bd 10000 e' from ⟨by omega, by omega⟩) (show (10000 : Int) * 10000 ≤ 100000000 by decide)
  obtain ⟨x3, x4⟩ := mul_bd (show Bd 20000 (lE (mulL d a b a' b')) from ⟨by omega, by omega⟩) (show Bd 100000000 (e * e') from ⟨by omega, by omega⟩) (show (20000 : Int) * 100000000 ≤ 2000000000000 by decide)
  have := Int.mul_nonneg hE0 (Int.mul_nonneg (show 0 ≤ e by omega) (show 0 ≤ e' by omega))
  unfold muE
  omega

theorem implConj_any (d e a b : Int) (w : World) (h : idB d e a b = true) : Calls Try.prog 82 #[.agg #[.int .i64 e, .int .i64 a, .int .i64 b]] w fun en w' => en = .returned (.agg #[.int .i64 e, .int .i64 a, .int .i64 (cjB a b)]) ∧ Below w.heap.size w w' := by
  obtain ⟨h1, h2, h3, h4, h5, h6, h7, h8⟩ := idB_true h
  clear h1 h8 h
  go_enter Try.func82, Try.ntmps82
  go_wp2_with fail
  refine wp_region_past_tail 12 (by kernel_rfl) (by kernel_rfl) ?_
  simp only [List.take_succ_cons, List.take_zero, List.drop_succ_cons, List.drop_zero]
  repeat (first | go_big_quiet_skip | (go_big_quiet_want; go_big_quiet_op; first | go_big_quiet_on | (apply Exists.intro; refine ⟨fun _ => ?_, ?_⟩; (focus ((go_at_call 78; exact past_same (mod_any _ _ _ ⟨by omega, by omega⟩ (by omega) (by omega))))); go_big_quiet_on)))
  refine wpQuiet_nil ?_
  intro w1 hw'
  have hB1 := past_below hw'
  clear hw'
  obtain ⟨hC1, hF1⟩ := bcell hB1
  have hS1 := hB1.size
  (try simp at hS1)
  (try have hS1_w0 : w.heap.size < w1.heap.size := by omega)
  (try have hS1_w1 : w.heap.size + 1 < w1.heap.size := by omega)
  (try have hS1_w2 : w.heap.size + 1 + 1 < w1.heap.size := by omega)
  (try have hS1_w3 : w.heap.size + 1 + 1 + 1 < w1.heap.size := by omega)
  (try have hS1_w4 : w.heap.size + 1 + 1 + 1 + 1 < w1.heap.size := by omega)
  have hRz : ∀ o, w1.cell? ⟨w.heap.size + 1, o, none⟩ = (#[.int .i64 0, .int .i64 0, .int .i64 0] : Array Value)[o]? := by (intro o; (repeat (first | ((with_reducible refine (cell_alloc_old _ _ _ _ ?_).trans ?_); (focus (first | omega | (simp <;> omega)))) | ((with_reducible refine (bC (by assumption) ?_).trans ?_); (focus (first | omega | (simp <;> omega)))) | ((with_reducible refine (bG (by assumption) ?_).trans ?_); (focus (first | omega | (simp <;> omega)))))); simp [go_sem])
  have hFz : ∀ o, w1.frozen? ⟨w.heap.size + 1, o, none⟩ = false := by (intro o; (repeat (first | ((with_reducible refine (frozen_alloc_old _ _ _ _ ?_).trans ?_); (focus (first | omega | (simp <;> omega)))) | ((with_reducible refine (fG (by assumption) ?_).trans ?_); (focus (first | omega | (simp <;> omega)))))); simp [go_sem])
  go_wp2
  refine bodyPost_ret (v := .agg #[.int .i64 e, .int .i64 a, .int .i64 ((-b) % (2 * a))]) (by go_light; (try clear hC14); (try clear hF14); (try clear hB14); (try clear hC13); (try clear hF13); (try clear hB13); (try clear hC12); (try clear hF12); (try clear hB12); (try clear hC11); (try clear hF11); (try clear hB11); (try clear hC10); (try clear hF10); (try clear hB10); (try clear hC9); (try clear hF9); (try clear hB9); (try clear hC8); (try clear hF8); (try clear hB8); (try clear hC7); (try clear hF7); (try clear hB7); (try clear hC6); (try clear hF6); (try clear hB6); (try clear hC5); (try clear hF5); (try clear hB5); (try clear hC4); (try clear hF4); (try clear hB4); (try clear hC3); (try clear hF3); (try clear hB3); (try clear hC2); (try clear hF2); (try clear hB2); (try clear hC1); (try clear hF1); (try clear hB1); simp [results, Try.results82, go_sem, hRz]) rfl ⟨rfl, ?_⟩
  repeat (first | with_reducible exact Below.refl _ _ | with_reducible assumption | ((with_reducible refine blA ?_ ?_); (focus (first | omega | (simp <;> omega)))) | (with_reducible refine blD ?_) | (with_reducible refine blN ?_) | ((with_reducible refine blS ?_ ?_); (focus (first | omega | (simp <;> omega)))) | ((with_reducible refine blT (by assumption) ?_ ?_); (focus (first | omega | (simp <;> omega)))))
theorem specConj_any (d e a b : Int) (w : World) (h : idB d e a b = true) : Calls Try.prog 80 #[.agg #[.int .i64 e, .int .i64 a, .int .i64 b]] w fun en w' => en = .returned (.agg #[.int .i64 e, .int .i64 a, .int .i64 (cjB a b)]) ∧ Below w.heap.size w w' := by
  obtain ⟨h1, h2, h3, h4, h5, h6, h7, h8⟩ := idB_true h
  clear h1 h8 h
  go_enter Try.func80, Try.ntmps80
  go_wp2_with fail
  refine wp_region_past_tail 12 (by kernel_rfl) (by kernel_rfl) ?_
  simp only [List.take_succ_cons, List.take_zero, List.drop_succ_cons, List.drop_zero]
  repeat (first | go_big_quiet_skip | (go_big_quiet_want; go_big_quiet_op; first | go_big_quiet_on | (apply Exists.intro; refine ⟨fun _ => ?_, ?_⟩; (focus ((go_at_call 44; exact past_same (nuMod_any _ _ _ ⟨by omega, by omega⟩ (by omega) (by omega))))); go_big_quiet_on)))
  refine wpQuiet_nil ?_
  intro w1 hw'
  have hB1 := past_below hw'
  clear hw'
  obtain ⟨hC1, hF1⟩ := bcell hB1
  have hS1 := hB1.size
  (try simp at hS1)
  (try have hS1_w0 : w.heap.size < w1.heap.size := by omega)
  (try have hS1_w1 : w.heap.size + 1 < w1.heap.size := by omega)
  (try have hS1_w2 : w.heap.size + 1 + 1 < w1.heap.size := by omega)
  (try have hS1_w3 : w.heap.size + 1 + 1 + 1 < w1.heap.size := by omega)
  (try have hS1_w4 : w.heap.size + 1 + 1 + 1 + 1 < w1.heap.size := by omega)
  have hRz : ∀ o, w1.cell? ⟨w.heap.size + 1, o, none⟩ = (#[.int .i64 0, .int .i64 0, .int .i64 0] : Array Value)[o]? := by (intro o; (repeat (first | ((with_reducible refine (cell_alloc_old _ _ _ _ ?_).trans ?_); (focus (first | omega | (simp <;> omega)))) | ((with_reducible refine (bC (by assumption) ?_).trans ?_); (focus (first | omega | (simp <;> omega)))) | ((with_reducible refine (bG (by assumption) ?_).trans ?_); (focus (first | omega | (simp <;> omega)))))); simp [go_sem])
  have hFz : ∀ o, w1.frozen? ⟨w.heap.size + 1, o, none⟩ = false := by (intro o; (repeat (first | ((with_reducible refine (frozen_alloc_old _ _ _ _ ?_).trans ?_); (focus (first | omega | (simp <;> omega)))) | ((with_reducible refine (fG (by assumption) ?_).trans ?_); (focus (first | omega | (simp <;> omega)))))); simp [go_sem])
  go_wp2
  refine bodyPost_ret (v := .agg #[.int .i64 e, .int .i64 a, .int .i64 ((-b) % (2 * a))]) (by go_light; (try clear hC14); (try clear hF14); (try clear hB14); (try clear hC13); (try clear hF13); (try clear hB13); (try clear hC12); (try clear hF12); (try clear hB12); (try clear hC11); (try clear hF11); (try clear hB11); (try clear hC10); (try clear hF10); (try clear hB10); (try clear hC9); (try clear hF9); (try clear hB9); (try clear hC8); (try clear hF8); (try clear hB8); (try clear hC7); (try clear hF7); (try clear hB7); (try clear hC6); (try clear hF6); (try clear hB6); (try clear hC5); (try clear hF5); (try clear hB5); (try clear hC4); (try clear hF4); (try clear hB4); (try clear hC3); (try clear hF3); (try clear hB3); (try clear hC2); (try clear hF2); (try clear hB2); (try clear hC1); (try clear hF1); (try clear hB1); simp [results, Try.results80, go_sem, hRz]) rfl ⟨rfl, ?_⟩
  repeat (first | with_reducible exact Below.refl _ _ | with_reducible assumption | ((with_reducible refine blA ?_ ?_); (focus (first | omega | (simp <;> omega)))) | (with_reducible refine blD ?_) | (with_reducible refine blN ?_) | ((with_reducible refine blS ?_ ?_); (focus (first | omega | (simp <;> omega)))) | ((with_reducible refine blT (by assumption) ?_ ?_); (focus (first | omega | (simp <;> omega)))))
theorem implNorm_any (d e a b : Int) (w : World) (h : idB d e a b = true) : Calls Try.prog 83 #[.agg #[.int .i64 e, .int .i64 a, .int .i64 b]] w fun en w' => en = .returned (.int .i64 (nmI e a)) ∧ Below w.heap.size w w' := by
  obtain ⟨_, _, ⟨m1, m2⟩, ⟨m3, m4⟩, _⟩ := nmI_bd h
  obtain ⟨h1, h2, h3, h4, h5, h6, h7, h8⟩ := idB_true h
  clear h1 h8 h
  go_enter Try.func83, Try.ntmps83
  go_wp2_with fail
  (refine bodyPost_ret (v := .int .i64 (e * e * a)) ?_ rfl ⟨?_, ?_⟩; (focus (go_light; first | (simp [results, Try.results83, go_sem, *]; done) | (simp (disch := first | omega | (simp <;> omega) | (refine isSome_of ?_ ?_; (focus ((repeat (first | ((with_reducible refine (cell_alloc_old _ _ _ _ ?_).trans ?_); (focus (first | omega | (simp <;> omega)))) | ((with_reducible refine (bG (by assumption) ?_).trans ?_); (focus (first | omega | (simp <;> omega)))))); exact rfl)); simp [go_sem]) | fail) [results, Try.results83, go_sem, *]; done))); (focus (rfl)); repeat (first | with_reducible exact Below.refl _ _ | with_reducible assumption | ((with_reducible refine blA ?_ ?_); (focus (first | omega | (simp <;> omega)))) | (with_reducible refine blD ?_) | (with_reducible refine blN ?_) | ((with_reducible refine blS ?_ ?_); (focus (first | omega | (simp <;> omega)))) | ((with_reducible refine blT (by assumption) ?_ ?_); (focus (first | omega | (simp <;> omega))))))
theorem specNorm_any (d e a b : Int) (w : World) (h : idB d e a b = true) : Calls Try.prog 81 #[.agg #[.int .i64 e, .int .i64 a, .int .i64 b]] w fun en w' => en = .returned (.int .i64 (nmI e a)) ∧ Below w.heap.size w w' := by
  obtain ⟨_, _, ⟨m1, m2⟩, ⟨m3, m4⟩, _⟩ := nmI_bd h
  obtain ⟨h1, h2, h3, h4, h5, h6, h7, h8⟩ := idB_true h
  clear h1 h8 h
  go_enter Try.func81, Try.ntmps81
  go_wp2_with fail
  (refine bodyPost_ret (v := .int .i64 (e * e * a)) ?_ rfl ⟨?_, ?_⟩; (focus (go_light; first | (simp [results, Try.results81, go_sem, *]; done) | (simp (disch := first | omega | (simp <;> omega) | (refine isSome_of ?_ ?_; (focus ((repeat (first | ((with_reducible refine (cell_alloc_old _ _ _ _ ?_).trans ?_); (focus (first | omega | (simp <;> omega)))) | ((with_reducible refine (bG (by assumption) ?_).trans ?_); (focus (first | omega | (simp <;> omega)))))); exact rfl)); simp [go_sem]) | fail) [results, Try.results81, go_sem, *]; done))); (focus (rfl)); repeat (first | with_reducible exact Below.refl _ _ | with_reducible assumption | ((with_reducible refine blA ?_ ?_); (focus (first | omega | (simp <;> omega)))) | (with_reducible refine blD ?_) | (with_reducible refine blN ?_) | ((with_reducible refine blS ?_ ?_); (focus (first | omega | (simp <;> omega)))) | ((with_reducible refine blT (by assumption) ?_ ?_); (focus (first | omega | (simp <;> omega))))))
set_option maxRecDepth 100000 in
set_option maxHeartbeats 2000000 in
theorem implQuot_gen (d e a b e' a' b' X Y Z : Int) (w : World) (hd : I64 d) (h : idB d e a b = true) (h' : idB d e' a' b' = true) (hT : Hid (∀ w1, Calls Try.prog 48 #[.int .i64 d, .agg #[.int .i64 e, .int .i64 a, .int .i64 b], .agg #[.int .i64 e', .int .i64 a', .int .i64 (cjB a' b')]] w1 fun en w' => en = .returned (.agg #[.int .i64 X, .int .i64 Y, .int .i64 Z]) ∧ Below w1.heap.size w1 w')) (x0 : 0 ≤ X) (x1 : X ≤ 2000000000000) :
    Calls Try.prog 56 #[.int .i64 d, .agg #[.int .i64 e, .int .i64 a, .int .i64 b], .agg #[.int .i64 e', .int .i64 a', .int .i64 b']] w fun en w' => en = .returned (.tuple #[.agg #[.int .i64 (iz (decide (X % nmI e' a' = 0) && idB d (X / nmI e' a') Y Z) (X / nmI e' a')), .int .i64 (iz (decide (X % nmI e' a' = 0) && idB d (X / nmI e' a') Y Z) Y), .int .i64 (iz (decide (X % nmI e' a' = 0) && idB d (X / nmI e' a') Y Z) Z)], .bool (decide (X % nmI e' a' = 0) && idB d (X / nmI e' a') Y Z)]) ∧ Below w.heap.size w w' := by
  obtain ⟨n1, n2, _, _, n0⟩ := nmI_bd h'
  have nz : ¬ nmI e' a' = 0 := by omega
  have q0 := Int.ediv_nonneg x0 (show 0 ≤ nmI e' a' by omega)
  have q1 := Int.ediv_le_self (nmI e' a') x0
  have hC : Hid (∀ w1, Calls Try.prog 82 #[.agg #[.int .i64 e', .int .i64 a', .int .i64 b']] w1 fun en w' => en = .returned (.agg #[.int .i64 e', .int .i64 a', .int .i64 (cjB a' b')]) ∧ Below w1.heap.size w1 w') := fun w1 => implConj_any d e' a' b' w1 h'
  have hN : Hid (∀ w1, Calls Try.prog 83 #[.agg #[.int .i64 e', .int .i64 a', .int .i64 b']] w1 fun en w' => en = .returned (.int .i64 (nmI e' a')) ∧ Below w1.heap.size w1 w') := fun w1 => implNorm_any d e' a' b' w1 h'
  clear h h'
  generalize cjB a' b' = cj at *
  generalize hn : nmI e' a' = N at *
  clear hn
  by_cases c : X % N = 0
  · have hz : (X % N == 0) = true := by simp [c]
    rw [decide_eq_true c, Bool.true_and]
    clear c
    go_enter Try.func56, Try.ntmps56
    go_wp2_with fail
    refine region_mixed 5 (by kernel_rfl) (by kernel_rfl) (by kernel_rfl) ?_
    apply Exists.intro
    refine ⟨fun w0 hw0 => ?_, ?_⟩
    · obtain ⟨hC0, hF0⟩ := bcell hw0
      have hS0 := hw0.size
      (try simp at hS0)
      (try have hS0_w0 : w.heap.size < w0.heap.size := by omega)
      (try have hS0_w1 : w.heap.size + 1 < w0.heap.size := by omega)
      (try have hS0_w2 : w.heap.size + 1 + 1 < w0.heap.size := by omega)
      (try have hS0_w3 : w.heap.size + 1 + 1 + 1 < w0.heap.size := by omega)
      (try have hS0_w4 : w.heap.size + 1 + 1 + 1 + 1 < w0.heap.size := by omega)
      (try have hL0_w0 : w.heap.size ≤ w0.heap.size := by omega)
      (try have hL0_w1 : w.heap.size + 1 ≤ w0.heap.size := by omega)
      (try have hL0_w2 : w.heap.size + 1 + 1 ≤ w0.heap.size := by omega)
      (try have hL0_w3 : w.heap.size + 1 + 1 + 1 ≤ w0.heap.size := by omega)
      (try have hL0_w : w.heap.size ≤ w0.heap.size + 1 := by omega)
      (try have hM0_1 : w.heap.size < w0.heap.size + 1 := by omega)
      (try have hM0_2 : w.heap.size < w0.heap.size + 1 + 1 := by omega)
      (try have hM0_3 : w.heap.size < w0.heap.size + 1 + 1 + 1 := by omega)
      (try have hN0_1_00 : w1.heap.size < w0.heap.size := by omega)
      (try have hN0_1_01 : w1.heap.size < w0.heap.size + 1 := by omega)
      (try have hN0_1_02 : w1.heap.size < w0.heap.size + 1 + 1 := by omega)
      (try have hN0_1_10 : w1.heap.size + 1 < w0.heap.size := by omega)
      (try have hN0_1_11 : w1.heap.size + 1 < w0.heap.size + 1 := by omega)
      (try have hN0_1_12 : w1.heap.size + 1 < w0.heap.size + 1 + 1 := by omega)
      (try have hN0_1_20 : w1.heap.size + 1 + 1 < w0.heap.size := by omega)
      (try have hN0_1_21 : w1.heap.size + 1 + 1 < w0.heap.size + 1 := by omega)
      (try have hN0_1_22 : w1.heap.size + 1 + 1 < w0.heap.size + 1 + 1 := by omega)
      (try have hL0_1 : w1.heap.size ≤ w0.heap.size := by omega)
      (try have hS0_1 : w1.heap.size < w0.heap.size := by omega)
      (try have hS0_1' : w1.heap.size + 1 < w0.heap.size := by omega)
      simp only [List.take_succ_cons, List.take_zero]
      repeat (first | go_big_quiet_skip | (go_big_quiet_want; go_big_quiet_op; first | go_big_quiet_on | (apply Exists.intro; refine ⟨fun _ => ?_, ?_⟩; (focus (first | (go_at_call 82; exact past_of (hC.out _)) | (go_at_call 48; exact past_of (hT.out _)))); go_big_quiet_on)))
      refine wpQuiet_nil ?_
      rfl
    intro W hW hWz
    simp only [List.drop_succ_cons, List.drop_zero]
    refine eff_new #[.int .i64 0, .int .i64 0, .int .i64 0] 34 [.int .i64 X, .int .i64 Y, .int .i64 Z] rfl rfl rfl rfl (fun _ => by simp [go_sem]) (cl_refl _) (fun wa wb hb => ?_) (fun w2 hV2 => ?_)
    · obtain ⟨hc, hf⟩ := bnew hb
      refine ⟨.skip, ?_, Or.inl rfl⟩
      simp [go_sem, setAll, Act.put, hc, hf]
    have hB2 := hW.trans (hV2.mono hW.size)
    obtain ⟨hC2, hF2⟩ := bcell hB2
    have hS2 := hB2.size
    (try simp at hS2)
    (try have hS2_w0 : w.heap.size < w2.heap.size := by omega)
    (try have hS2_w1 : w.heap.size + 1 < w2.heap.size := by omega)
    (try have hS2_w2 : w.heap.size + 1 + 1 < w2.heap.size := by omega)
    (try have hS2_w3 : w.heap.size + 1 + 1 + 1 < w2.heap.size := by omega)
    (try have hS2_w4 : w.heap.size + 1 + 1 + 1 + 1 < w2.heap.size := by omega)
    (try have hL2_w0 : w.heap.size ≤ w2.heap.size := by omega)
    (try have hL2_w1 : w.heap.size + 1 ≤ w2.heap.size := by omega)
    (try have hL2_w2 : w.heap.size + 1 + 1 ≤ w2.heap.size := by omega)
    (try have hL2_w3 : w.heap.size + 1 + 1 + 1 ≤ w2.heap.size := by omega)
    (try have hL2_w : w.heap.size ≤ w2.heap.size + 1 := by omega)
    (try have hM2_1 : w.heap.size < w2.heap.size + 1 := by omega)
    (try have hM2_2 : w.heap.size < w2.heap.size + 1 + 1 := by omega)
    (try have hM2_3 : w.heap.size < w2.heap.size + 1 + 1 + 1 := by omega)
    (try have hN2_1_00 : w1.heap.size < w2.heap.size := by omega)
    (try have hN2_1_01 : w1.heap.size < w2.heap.size + 1 := by omega)
    (try have hN2_1_02 : w1.heap.size < w2.heap.size + 1 + 1 := by omega)
    (try have hN2_1_10 : w1.heap.size + 1 < w2.heap.size := by omega)
    (try have hN2_1_11 : w1.heap.size + 1 < w2.heap.size + 1 := by omega)
    (try have hN2_1_12 : w1.heap.size + 1 < w2.heap.size + 1 + 1 := by omega)
    (try have hN2_1_20 : w1.heap.size + 1 + 1 < w2.heap.size := by omega)
    (try have hN2_1_21 : w1.heap.size + 1 + 1 < w2.heap.size + 1 := by omega)
    (try have hN2_1_22 : w1.heap.size + 1 + 1 < w2.heap.size + 1 + 1 := by omega)
    (try have hL2_1 : w1.heap.size ≤ w2.heap.size := by omega)
    (try have hS2_1 : w1.heap.size < w2.heap.size := by omega)
    (try have hS2_1' : w1.heap.size + 1 < w2.heap.size := by omega)
    have hK : Cl W (w2.alloc (.cells #[.int .i64 X, .int .i64 Y, .int .i64 Z] 34)) := (cl_of hV2).alloc _
    clear hK
    intro w3 hV3
    have hB3 := past_below hV3
    clear hV2 hV3 hW hWz
    obtain ⟨hC3, hF3⟩ := bcell hB3
    have hS3 := hB3.size
    (try simp at hS3)
    (try have hS3_w0 : w.heap.size < w3.heap.size := by omega)
    (try have hS3_w1 : w.heap.size + 1 < w3.heap.size := by omega)
    (try have hS3_w2 : w.heap.size + 1 + 1 < w3.heap.size := by omega)
    (try have hS3_w3 : w.heap.size + 1 + 1 + 1 < w3.heap.size := by omega)
    (try have hS3_w4 : w.heap.size + 1 + 1 + 1 + 1 < w3.heap.size := by omega)
    (try have hL3_w0 : w.heap.size ≤ w3.heap.size := by omega)
    (try have hL3_w1 : w.heap.size + 1 ≤ w3.heap.size := by omega)
    (try have hL3_w2 : w.heap.size + 1 + 1 ≤ w3.heap.size := by omega)
    (try have hL3_w3 : w.heap.size + 1 + 1 + 1 ≤ w3.heap.size := by omega)
    (try have hL3_w : w.heap.size ≤ w3.heap.size + 1 := by omega)
    (try have hM3_1 : w.heap.size < w3.heap.size + 1 := by omega)
    (try have hM3_2 : w.heap.size < w3.heap.size + 1 + 1 := by omega)
    (try have hM3_3 : w.heap.size < w3.heap.size + 1 + 1 + 1 := by omega)
    (try have hN3_1_00 : w1.heap.size < w3.heap.size := by omega)
    (try have hN3_1_01 : w1.heap.size < w3.heap.size + 1 := by omega)
    (try have hN3_1_02 : w1.heap.size < w3.heap.size + 1 + 1 := by omega)
    (try have hN3_1_10 : w1.heap.size + 1 < w3.heap.size := by omega)
    (try have hN3_1_11 : w1.heap.size + 1 < w3.heap.size + 1 := by omega)
    (try have hN3_1_12 : w1.heap.size + 1 < w3.heap.size + 1 + 1 := by omega)
    (try have hN3_1_20 : w1.heap.size + 1 + 1 < w3.heap.size := by omega)
    (try have hN3_1_21 : w1.heap.size + 1 + 1 < w3.heap.size + 1 := by omega)
    (try have hN3_1_22 : w1.heap.size + 1 + 1 < w3.heap.size + 1 + 1 := by omega)
    (try have hN3_2_00 : w2.heap.size < w3.heap.size := by omega)
    (try have hN3_2_01 : w2.heap.size < w3.heap.size + 1 := by omega)
    (try have hN3_2_02 : w2.heap.size < w3.heap.size + 1 + 1 := by omega)
    (try have hN3_2_10 : w2.heap.size + 1 < w3.heap.size := by omega)
    (try have hN3_2_11 : w2.heap.size + 1 < w3.heap.size + 1 := by omega)
    (try have hN3_2_12 : w2.heap.size + 1 < w3.heap.size + 1 + 1 := by omega)
    (try have hN3_2_20 : w2.heap.size + 1 + 1 < w3.heap.size := by omega)
    (try have hN3_2_21 : w2.heap.size + 1 + 1 < w3.heap.size + 1 := by omega)
    (try have hN3_2_22 : w2.heap.size + 1 + 1 < w3.heap.size + 1 + 1 := by omega)
    (try have hL3_1 : w1.heap.size ≤ w3.heap.size := by omega)
    (try have hL3_2 : w2.heap.size ≤ w3.heap.size := by omega)
    (try have hS3_1 : w1.heap.size < w3.heap.size := by omega)
    (try have hS3_1' : w1.heap.size + 1 < w3.heap.size := by omega)
    (try have hS3_2 : w2.heap.size < w3.heap.size := by omega)
    (try have hS3_2' : w2.heap.size + 1 < w3.heap.size := by omega)
    simp only [Act.put, Act.eval, List.setIfInBounds_toArray, List.set_cons_zero, List.set_cons_succ]
    go_wp2_with fail
    refine wp_region_past (by kernel_rfl) (by kernel_rfl) ?_
    repeat (first | go_big_quiet_skip | (go_big_quiet_want; go_big_quiet_op; first | go_big_quiet_on | (apply Exists.intro; refine ⟨fun _ => ?_, ?_⟩; (focus ((go_at_call 83; exact past_of (hN.out _)))); go_big_quiet_on)))
    refine wpQuiet_nil ?_
    intro w6 hw'
    have hB6 := past_below hw'
    clear hw'
    obtain ⟨hC6, hF6⟩ := bcell hB6
    have hS6 := hB6.size
    (try simp at hS6)
    (try have hS6_w0 : w.heap.size < w6.heap.size := by omega)
    (try have hS6_w1 : w.heap.size + 1 < w6.heap.size := by omega)
    (try have hS6_w2 : w.heap.size + 1 + 1 < w6.heap.size := by omega)
    (try have hS6_w3 : w.heap.size + 1 + 1 + 1 < w6.heap.size := by omega)
    (try have hS6_w4 : w.heap.size + 1 + 1 + 1 + 1 < w6.heap.size := by omega)
    (try have hS6_1 : w1.heap.size < w6.heap.size := by omega)
    (try have hS6_2 : w2.heap.size < w6.heap.size := by omega)
    (try have hS6_3 : w3.heap.size < w6.heap.size := by omega)
    (try have hS6_4 : w4.heap.size < w6.heap.size := by omega)
    (try have hS6_5 : w5.heap.size < w6.heap.size := by omega)
    (try have hS6_1' : w1.heap.size + 1 < w6.heap.size := by omega)
    (try have hS6_2' : w2.heap.size + 1 < w6.heap.size := by omega)
    (try have hS6_3' : w3.heap.size + 1 < w6.heap.size := by omega)
    (try have hS6_4' : w4.heap.size + 1 < w6.heap.size := by omega)
    (try have hS6_5' : w5.heap.size + 1 < w6.heap.size := by omega)
    go_wp2_with fail
    refine wp_region_past_tail 6 (by kernel_rfl) (by kernel_rfl) ?_
    simp only [List.take_succ_cons, List.take_zero, List.drop_succ_cons, List.drop_zero]
    repeat (first | go_big_quiet_skip | (go_big_quiet_want; go_big_quiet_op; first | go_big_quiet_on | (apply Exists.intro; refine ⟨fun _ => ?_, ?_⟩; (focus ((go_at_call 83; exact past_of (hN.out _)))); go_big_quiet_on)))
    refine wpQuiet_nil ?_
    intro w7 hw'
    have hB7 := past_below hw'
    clear hw'
    obtain ⟨hC7, hF7⟩ := bcell hB7
    have hS7 := hB7.size
    (try simp at hS7)
    (try have hS7_w0 : w.heap.size < w7.heap.size := by omega)
    (try have hS7_w1 : w.heap.size + 1 < w7.heap.size := by omega)
    (try have hS7_w2 : w.heap.size + 1 + 1 < w7.heap.size := by omega)
    (try have hS7_w3 : w.heap.size + 1 + 1 + 1 < w7.heap.size := by omega)
    (try have hS7_w4 : w.heap.size + 1 + 1 + 1 + 1 < w7.heap.size := by omega)
    (try have hS7_1 : w1.heap.size < w7.heap.size := by omega)
    (try have hS7_2 : w2.heap.size < w7.heap.size := by omega)
    (try have hS7_3 : w3.heap.size < w7.heap.size := by omega)
    (try have hS7_4 : w4.heap.size < w7.heap.size := by omega)
    (try have hS7_5 : w5.heap.size < w7.heap.size := by omega)
    (try have hS7_6 : w6.heap.size < w7.heap.size := by omega)
    (try have hS7_1' : w1.heap.size + 1 < w7.heap.size := by omega)
    (try have hS7_2' : w2.heap.size + 1 < w7.heap.size := by omega)
    (try have hS7_3' : w3.heap.size + 1 < w7.heap.size := by omega)
    (try have hS7_4' : w4.heap.size + 1 < w7.heap.size := by omega)
    (try have hS7_5' : w5.heap.size + 1 < w7.heap.size := by omega)
    (try have hS7_6' : w6.heap.size + 1 < w7.heap.size := by omega)
    go_wp2_with fail
    refine (validIdeal_any _ _ _ _ _ hd).mono ?_
    rintro e1 w1 ⟨rfl, hB1⟩
    obtain ⟨hC1, hF1⟩ := bcell hB1
    have hS1 := hB1.size
    (try simp at hS1)
    (try have hS1_w0 : w.heap.size < w1.heap.size := by omega)
    (try have hS1_w1 : w.heap.size + 1 < w1.heap.size := by omega)
    (try have hS1_w2 : w.heap.size + 1 + 1 < w1.heap.size := by omega)
    (try have hS1_w3 : w.heap.size + 1 + 1 + 1 < w1.heap.size := by omega)
    (try have hS1_w4 : w.heap.size + 1 + 1 + 1 + 1 < w1.heap.size := by omega)
    (try have hL1_w0 : w.heap.size ≤ w1.heap.size := by omega)
    (try have hL1_w1 : w.heap.size + 1 ≤ w1.heap.size := by omega)
    (try have hL1_w2 : w.heap.size + 1 + 1 ≤ w1.heap.size := by omega)
    (try have hL1_w3 : w.heap.size + 1 + 1 + 1 ≤ w1.heap.size := by omega)
    (try have hL1_w : w.heap.size ≤ w1.heap.size + 1 := by omega)
    (try have hM1_1 : w.heap.size < w1.heap.size + 1 := by omega)
    (try have hM1_2 : w.heap.size < w1.heap.size + 1 + 1 := by omega)
    (try have hM1_3 : w.heap.size < w1.heap.size + 1 + 1 + 1 := by omega)
    go_wp2_with fail
    (refine bodyPost_ret (v := .tuple #[.agg #[.int .i64 (iz (idB d (X / N) Y Z) (X / N)), .int .i64 (iz (idB d (X / N) Y Z) Y), .int .i64 (iz (idB d (X / N) Y Z) Z)], .bool (idB d (X / N) Y Z)]) ?_ rfl ⟨?_, ?_⟩; (focus (go_light; first | (simp [results, Try.results56, go_sem, *]; done) | (simp (disch := first | omega | (simp <;> omega) | (refine isSome_of ?_ ?_; (focus ((repeat (first | ((with_reducible refine (cell_alloc_old _ _ _ _ ?_).trans ?_); (focus (first | omega | (simp <;> omega)))) | ((with_reducible refine (bG (by assumption) ?_).trans ?_); (focus (first | omega | (simp <;> omega)))))); exact rfl)); simp [go_sem]) | fail) [results, Try.results56, go_sem, *]; done))); (focus (rfl)); repeat (first | with_reducible exact Below.refl _ _ | with_reducible assumption | ((with_reducible refine blA ?_ ?_); (focus (first | omega | (simp <;> omega)))) | (with_reducible refine blD ?_) | (with_reducible refine blN ?_) | ((with_reducible refine blS ?_ ?_); (focus (first | omega | (simp <;> omega)))) | ((with_reducible refine blT (by assumption) ?_ ?_); (focus (first | omega | (simp <;> omega))))))
  · have hz : (X % N == 0) = false := by simp [c]
    rw [decide_eq_false c, Bool.false_and]
    clear c
    go_enter Try.func56, Try.ntmps56
    go_wp2_with fail
    refine region_mixed 5 (by kernel_rfl) (by kernel_rfl) (by kernel_rfl) ?_
    apply Exists.intro
    refine ⟨fun w0 hw0 => ?_, ?_⟩
    · obtain ⟨hC0, hF0⟩ := bcell hw0
      have hS0 := hw0.size
      (try simp at hS0)
      (try have hS0_w0 : w.heap.size < w0.heap.size := by omega)
      (try have hS0_w1 : w.heap.size + 1 < w0.heap.size := by omega)
      (try have hS0_w2 : w.heap.size + 1 + 1 < w0.heap.size := by omega)
      (try have hS0_w3 : w.heap.size + 1 + 1 + 1 < w0.heap.size := by omega)
      (try have hS0_w4 : w.heap.size + 1 + 1 + 1 + 1 < w0.heap.size := by omega)
      (try have hL0_w0 : w.heap.size ≤ w0.heap.size := by omega)
      (try have hL0_w1 : w.heap.size + 1 ≤ w0.heap.size := by omega)
      (try have hL0_w2 : w.heap.size + 1 + 1 ≤ w0.heap.size := by omega)
      (try have hL0_w3 : w.heap.size + 1 + 1 + 1 ≤ w0.heap.size := by omega)
      (try have hL0_w : w.heap.size ≤ w0.heap.size + 1 := by omega)
      (try have hM0_1 : w.heap.size < w0.heap.size + 1 := by omega)
      (try have hM0_2 : w.heap.size < w0.heap.size + 1 + 1 := by omega)
      (try have hM0_3 : w.heap.size < w0.heap.size + 1 + 1 + 1 := by omega)
      (try have hN0_1_00 : w1.heap.size < w0.heap.size := by omega)
      (try have hN0_1_01 : w1.heap.size < w0.heap.size + 1 := by omega)
      (try have hN0_1_02 : w1.heap.size < w0.heap.size + 1 + 1 := by omega)
      (try have hN0_1_10 : w1.heap.size + 1 < w0.heap.size := by omega)
      (try have hN0_1_11 : w1.heap.size + 1 < w0.heap.size + 1 := by omega)
      (try have hN0_1_12 : w1.heap.size + 1 < w0.heap.size + 1 + 1 := by omega)
      (try have hN0_1_20 : w1.heap.size + 1 + 1 < w0.heap.size := by omega)
      (try have hN0_1_21 : w1.heap.size + 1 + 1 < w0.heap.size + 1 := by omega)
      (try have hN0_1_22 : w1.heap.size + 1 + 1 < w0.heap.size + 1 + 1 := by omega)
      (try have hN0_2_00 : w2.heap.size < w0.heap.size := by omega)
      (try have hN0_2_01 : w2.heap.size < w0.heap.size + 1 := by omega)
      (try have hN0_2_02 : w2.heap.size < w0.heap.size + 1 + 1 := by omega)
      (try have hN0_2_10 : w2.heap.size + 1 < w0.heap.size := by omega)
      (try have hN0_2_11 : w2.heap.size + 1 < w0.heap.size + 1 := by omega)
      (try have hN0_2_12 : w2.heap.size + 1 < w0.heap.size + 1 + 1 := by omega)
      (try have hN0_2_20 : w2.heap.size + 1 + 1 < w0.heap.size := by omega)
      (try have hN0_2_21 : w2.heap.size + 1 + 1 < w0.heap.size + 1 := by omega)
      (try have hN0_2_22 : w2.heap.size + 1 + 1 < w0.heap.size + 1 + 1 := by omega)
      (try have hN0_3_00 : w3.heap.size < w0.heap.size := by omega)
      (try have hN0_3_01 : w3.heap.size < w0.heap.size + 1 := by omega)
      (try have hN0_3_02 : w3.heap.size < w0.heap.size + 1 + 1 := by omega)
      (try have hN0_3_10 : w3.heap.size + 1 < w0.heap.size := by omega)
      (try have hN0_3_11 : w3.heap.size + 1 < w0.heap.size + 1 := by omega)
      (try have hN0_3_12 : w3.heap.size + 1 < w0.heap.size + 1 + 1 := by omega)
      (try have hN0_3_20 : w3.heap.size + 1 + 1 < w0.heap.size := by omega)
      (try have hN0_3_21 : w3.heap.size + 1 + 1 < w0.heap.size + 1 := by omega)
      (try have hN0_3_22 : w3.heap.size + 1 + 1 < w0.heap.size + 1 + 1 := by omega)
      (try have hL0_1 : w1.heap.size ≤ w0.heap.size := by omega)
      (try have hL0_2 : w2.heap.size ≤ w0.heap.size := by omega)
      (try have hL0_3 : w3.heap.size ≤ w0.heap.size := by omega)
      (try have hS0_1 : w1.heap.size < w0.heap.size := by omega)
      (try have hS0_1' : w1.heap.size + 1 < w0.heap.size := by omega)
      (try have hS0_2 : w2.heap.size < w0.heap.size := by omega)
      (try have hS0_2' : w2.heap.size + 1 < w0.heap.size := by omega)
      (try have hS0_3 : w3.heap.size < w0.heap.size := by omega)
      (try have hS0_3' : w3.heap.size + 1 < w0.heap.size := by omega)
      simp only [List.take_succ_cons, List.take_zero]
      repeat (first | go_big_quiet_skip | (go_big_quiet_want; go_big_quiet_op; first | go_big_quiet_on | (apply Exists.intro; refine ⟨fun _ => ?_, ?_⟩; (focus (first | (go_at_call 82; exact past_of (hC.out _)) | (go_at_call 48; exact past_of (hT.out _)))); go_big_quiet_on)))
      refine wpQuiet_nil ?_
      rfl
    intro W hW hWz
    simp only [List.drop_succ_cons, List.drop_zero]
    refine eff_new #[.int .i64 0, .int .i64 0, .int .i64 0] 34 [.int .i64 X, .int .i64 Y, .int .i64 Z] rfl rfl rfl rfl (fun _ => by simp [go_sem]) (cl_refl _) (fun wa wb hb => ?_) (fun w4 hV4 => ?_)
    · obtain ⟨hc, hf⟩ := bnew hb
      refine ⟨.skip, ?_, Or.inl rfl⟩
      simp [go_sem, setAll, Act.put, hc, hf]
    have hB4 := hW.trans (hV4.mono hW.size)
    obtain ⟨hC4, hF4⟩ := bcell hB4
    have hS4 := hB4.size
    (try simp at hS4)
    (try have hS4_w0 : w.heap.size < w4.heap.size := by omega)
    (try have hS4_w1 : w.heap.size + 1 < w4.heap.size := by omega)
    (try have hS4_w2 : w.heap.size + 1 + 1 < w4.heap.size := by omega)
    (try have hS4_w3 : w.heap.size + 1 + 1 + 1 < w4.heap.size := by omega)
    (try have hS4_w4 : w.heap.size + 1 + 1 + 1 + 1 < w4.heap.size := by omega)
    (try have hL4_w0 : w.heap.size ≤ w4.heap.size := by omega)
    (try have hL4_w1 : w.heap.size + 1 ≤ w4.heap.size := by omega)
    (try have hL4_w2 : w.heap.size + 1 + 1 ≤ w4.heap.size := by omega)
    (try have hL4_w3 : w.heap.size + 1 + 1 + 1 ≤ w4.heap.size := by omega)
    (try have hL4_w : w.heap.size ≤ w4.heap.size + 1 := by omega)
    (try have hM4_1 : w.heap.size < w4.heap.size + 1 := by omega)
    (try have hM4_2 : w.heap.size < w4.heap.size + 1 + 1 := by omega)
    (try have hM4_3 : w.heap.size < w4.heap.size + 1 + 1 + 1 := by omega)
    (try have hN4_1_00 : w1.heap.size < w4.heap.size := by omega)
    (try have hN4_1_01 : w1.heap.size < w4.heap.size + 1 := by omega)
    (try have hN4_1_02 : w1.heap.size < w4.heap.size + 1 + 1 := by omega)
    (try have hN4_1_10 : w1.heap.size + 1 < w4.heap.size := by omega)
    (try have hN4_1_11 : w1.heap.size + 1 < w4.heap.size + 1 := by omega)
    (try have hN4_1_12 : w1.heap.size + 1 < w4.heap.size + 1 + 1 := by omega)
    (try have hN4_1_20 : w1.heap.size + 1 + 1 < w4.heap.size := by omega)
    (try have hN4_1_21 : w1.heap.size + 1 + 1 < w4.heap.size + 1 := by omega)
    (try have hN4_1_22 : w1.heap.size + 1 + 1 < w4.heap.size + 1 + 1 := by omega)
    (try have hN4_2_00 : w2.heap.size < w4.heap.size := by omega)
    (try have hN4_2_01 : w2.heap.size < w4.heap.size + 1 := by omega)
    (try have hN4_2_02 : w2.heap.size < w4.heap.size + 1 + 1 := by omega)
    (try have hN4_2_10 : w2.heap.size + 1 < w4.heap.size := by omega)
    (try have hN4_2_11 : w2.heap.size + 1 < w4.heap.size + 1 := by omega)
    (try have hN4_2_12 : w2.heap.size + 1 < w4.heap.size + 1 + 1 := by omega)
    (try have hN4_2_20 : w2.heap.size + 1 + 1 < w4.heap.size := by omega)
    (try have hN4_2_21 : w2.heap.size + 1 + 1 < w4.heap.size + 1 := by omega)
    (try have hN4_2_22 : w2.heap.size + 1 + 1 < w4.heap.size + 1 + 1 := by omega)
    (try have hN4_3_00 : w3.heap.size < w4.heap.size := by omega)
    (try have hN4_3_01 : w3.heap.size < w4.heap.size + 1 := by omega)
    (try have hN4_3_02 : w3.heap.size < w4.heap.size + 1 + 1 := by omega)
    (try have hN4_3_10 : w3.heap.size + 1 < w4.heap.size := by omega)
    (try have hN4_3_11 : w3.heap.size + 1 < w4.heap.size + 1 := by omega)
    (try have hN4_3_12 : w3.heap.size + 1 < w4.heap.size + 1 + 1 := by omega)
    (try have hN4_3_20 : w3.heap.size + 1 + 1 < w4.heap.size := by omega)
    (try have hN4_3_21 : w3.heap.size + 1 + 1 < w4.heap.size + 1 := by omega)
    (try have hN4_3_22 : w3.heap.size + 1 + 1 < w4.heap.size + 1 + 1 := by omega)
    (try have hL4_1 : w1.heap.size ≤ w4.heap.size := by omega)
    (try have hL4_2 : w2.heap.size ≤ w4.heap.size := by omega)
    (try have hL4_3 : w3.heap.size ≤ w4.heap.size := by omega)
    (try have hS4_1 : w1.heap.size < w4.heap.size := by omega)
    (try have hS4_1' : w1.heap.size + 1 < w4.heap.size := by omega)
    (try have hS4_2 : w2.heap.size < w4.heap.size := by omega)
    (try have hS4_2' : w2.heap.size + 1 < w4.heap.size := by omega)
    (try have hS4_3 : w3.heap.size < w4.heap.size := by omega)
    (try have hS4_3' : w3.heap.size + 1 < w4.heap.size := by omega)
    have hK : Cl W (w4.alloc (.cells #[.int .i64 X, .int .i64 Y, .int .i64 Z] 34)) := (cl_of hV4).alloc _
    clear hK
    intro w5 hV5
    have hB5 := past_below hV5
    clear hV4 hV5 hW hWz
    obtain ⟨hC5, hF5⟩ := bcell hB5
    have hS5 := hB5.size
    (try simp at hS5)
    (try have hS5_w0 : w.heap.size < w5.heap.size := by omega)
    (try have hS5_w1 : w.heap.size + 1 < w5.heap.size := by omega)
    (try have hS5_w2 : w.heap.size + 1 + 1 < w5.heap.size := by omega)
    (try have hS5_w3 : w.heap.size + 1 + 1 + 1 < w5.heap.size := by omega)
    (try have hS5_w4 : w.heap.size + 1 + 1 + 1 + 1 < w5.heap.size := by omega)
    (try have hL5_w0 : w.heap.size ≤ w5.heap.size := by omega)
    (try have hL5_w1 : w.heap.size + 1 ≤ w5.heap.size := by omega)
    (try have hL5_w2 : w.heap.size + 1 + 1 ≤ w5.heap.size := by omega)
    (try have hL5_w3 : w.heap.size + 1 + 1 + 1 ≤ w5.heap.size := by omega)
    (try have hL5_w : w.heap.size ≤ w5.heap.size + 1 := by omega)
    (try have hM5_1 : w.heap.size < w5.heap.size + 1 := by omega)
    (try have hM5_2 : w.heap.size < w5.heap.size + 1 + 1 := by omega)
    (try have hM5_3 : w.heap.size < w5.heap.size + 1 + 1 + 1 := by omega)
    (try have hN5_2_00 : w2.heap.size < w5.heap.size := by omega)
    (try have hN5_2_01 : w2.heap.size < w5.heap.size + 1 := by omega)
    (try have hN5_2_02 : w2.heap.size < w5.heap.size + 1 + 1 := by omega)
    (try have hN5_2_10 : w2.heap.size + 1 < w5.heap.size := by omega)
    (try have hN5_2_11 : w2.heap.size + 1 < w5.heap.size + 1 := by omega)
    (try have hN5_2_12 : w2.heap.size + 1 < w5.heap.size + 1 + 1 := by omega)
    (try have hN5_2_20 : w2.heap.size + 1 + 1 < w5.heap.size := by omega)
    (try have hN5_2_21 : w2.heap.size + 1 + 1 < w5.heap.size + 1 := by omega)
    (try have hN5_2_22 : w2.heap.size + 1 + 1 < w5.heap.size + 1 + 1 := by omega)
    (try have hN5_3_00 : w3.heap.size < w5.heap.size := by omega)
    (try have hN5_3_01 : w3.heap.size < w5.heap.size + 1 := by omega)
    (try have hN5_3_02 : w3.heap.size < w5.heap.size + 1 + 1 := by omega)
    (try have hN5_3_10 : w3.heap.size + 1 < w5.heap.size := by omega)
    (try have hN5_3_11 : w3.heap.size + 1 < w5.heap.size + 1 := by omega)
    (try have hN5_3_12 : w3.heap.size + 1 < w5.heap.size + 1 + 1 := by omega)
    (try have hN5_3_20 : w3.heap.size + 1 + 1 < w5.heap.size := by omega)
    (try have hN5_3_21 : w3.heap.size + 1 + 1 < w5.heap.size + 1 := by omega)
    (try have hN5_3_22 : w3.heap.size + 1 + 1 < w5.heap.size + 1 + 1 := by omega)
    (try have hN5_4_00 : w4.heap.size < w5.heap.size := by omega)
    (try have hN5_4_01 : w4.heap.size < w5.heap.size + 1 := by omega)
    (try have hN5_4_02 : w4.heap.size < w5.heap.size + 1 + 1 := by omega)
    (try have hN5_4_10 : w4.heap.size + 1 < w5.heap.size := by omega)
    (try have hN5_4_11 : w4.heap.size + 1 < w5.heap.size + 1 := by omega)
    (try have hN5_4_12 : w4.heap.size + 1 < w5.heap.size + 1 + 1 := by omega)
    (try have hN5_4_20 : w4.heap.size + 1 + 1 < w5.heap.size := by omega)
    (try have hN5_4_21 : w4.heap.size + 1 + 1 < w5.heap.size + 1 := by omega)
    (try have hN5_4_22 : w4.heap.size + 1 + 1 < w5.heap.size + 1 + 1 := by omega)
    (try have hL5_1 : w1.heap.size ≤ w5.heap.size := by omega)
    (try have hL5_2 : w2.heap.size ≤ w5.heap.size := by omega)
    (try have hL5_3 : w3.heap.size ≤ w5.heap.size := by omega)
    (try have hL5_4 : w4.heap.size ≤ w5.heap.size := by omega)
    (try have hS5_1 : w1.heap.size < w5.heap.size := by omega)
    (try have hS5_1' : w1.heap.size + 1 < w5.heap.size := by omega)
    (try have hS5_2 : w2.heap.size < w5.heap.size := by omega)
    (try have hS5_2' : w2.heap.size + 1 < w5.heap.size := by omega)
    (try have hS5_3 : w3.heap.size < w5.heap.size := by omega)
    (try have hS5_3' : w3.heap.size + 1 < w5.heap.size := by omega)
    (try have hS5_4 : w4.heap.size < w5.heap.size := by omega)
    (try have hS5_4' : w4.heap.size + 1 < w5.heap.size := by omega)
    simp only [Act.put, Act.eval, List.setIfInBounds_toArray, List.set_cons_zero, List.set_cons_succ]
    go_wp2_with fail
    refine wp_region_past (by kernel_rfl) (by kernel_rfl) ?_
    repeat (first | go_big_quiet_skip | (go_big_quiet_want; go_big_quiet_op; first | go_big_quiet_on | (apply Exists.intro; refine ⟨fun _ => ?_, ?_⟩; (focus ((go_at_call 83; exact past_of (hN.out _)))); go_big_quiet_on)))
    refine wpQuiet_nil ?_
    intro w8 hw'
    have hB8 := past_below hw'
    clear hw'
    obtain ⟨hC8, hF8⟩ := bcell hB8
    have hS8 := hB8.size
    (try simp at hS8)
    (try have hS8_w0 : w.heap.size < w8.heap.size := by omega)
    (try have hS8_w1 : w.heap.size + 1 < w8.heap.size := by omega)
    (try have hS8_w2 : w.heap.size + 1 + 1 < w8.heap.size := by omega)
    (try have hS8_w3 : w.heap.size + 1 + 1 + 1 < w8.heap.size := by omega)
    (try have hS8_w4 : w.heap.size + 1 + 1 + 1 + 1 < w8.heap.size := by omega)
    (try have hS8_1 : w1.heap.size < w8.heap.size := by omega)
    (try have hS8_2 : w2.heap.size < w8.heap.size := by omega)
    (try have hS8_3 : w3.heap.size < w8.heap.size := by omega)
    (try have hS8_4 : w4.heap.size < w8.heap.size := by omega)
    (try have hS8_5 : w5.heap.size < w8.heap.size := by omega)
    (try have hS8_6 : w6.heap.size < w8.heap.size := by omega)
    (try have hS8_7 : w7.heap.size < w8.heap.size := by omega)
    (try have hS8_1' : w1.heap.size + 1 < w8.heap.size := by omega)
    (try have hS8_2' : w2.heap.size + 1 < w8.heap.size := by omega)
    (try have hS8_3' : w3.heap.size + 1 < w8.heap.size := by omega)
    (try have hS8_4' : w4.heap.size + 1 < w8.heap.size := by omega)
    (try have hS8_5' : w5.heap.size + 1 < w8.heap.size := by omega)
    (try have hS8_6' : w6.heap.size + 1 < w8.heap.size := by omega)
    (try have hS8_7' : w7.heap.size + 1 < w8.heap.size := by omega)
    go_wp2_with fail
    (refine bodyPost_ret (v := .tuple #[.agg #[.int .i64 0, .int .i64 0, .int .i64 0], .bool false]) ?_ rfl ⟨?_, ?_⟩; (focus (go_light; first | (simp [results, Try.results56, go_sem, *]; done) | (simp (disch := first | omega | (simp <;> omega) | (refine isSome_of ?_ ?_; (focus ((repeat (first | ((with_reducible refine (cell_alloc_old _ _ _ _ ?_).trans ?_); (focus (first | omega | (simp <;> omega)))) | ((with_reducible refine (bG (by assumption) ?_).trans ?_); (focus (first | omega | (simp <;> omega)))))); exact rfl)); simp [go_sem]) | fail) [results, Try.results56, go_sem, *]; done))); (focus (rfl)); repeat (first | with_reducible exact Below.refl _ _ | with_reducible assumption | ((with_reducible refine blA ?_ ?_); (focus (first | omega | (simp <;> omega)))) | (with_reducible refine blD ?_) | (with_reducible refine blN ?_) | ((with_reducible refine blS ?_ ?_); (focus (first | omega | (simp <;> omega)))) | ((with_reducible refine blT (by assumption) ?_ ?_); (focus (first | omega | (simp <;> omega))))))
set_option maxRecDepth 100000 in
set_option maxHeartbeats 2000000 in
theorem specQuot_gen (d e a b e' a' b' X Y Z : Int) (w : World) (hd : I64 d) (h : idB d e a b = true) (h' : idB d e' a' b' = true) (hT : Hid (∀ w1, Calls Try.prog 45 #[.int .i64 d, .agg #[.int .i64 e, .int .i64 a, .int .i64 b], .agg #[.int .i64 e', .int .i64 a', .int .i64 (cjB a' b')]] w1 fun en w' => en = .returned (.agg #[.int .i64 X, .int .i64 Y, .int .i64 Z]) ∧ Below w1.heap.size w1 w')) (x0 : 0 ≤ X) (x1 : X ≤ 2000000000000) :
    Calls Try.prog 54 #[.int .i64 d, .agg #[.int .i64 e, .int .i64 a, .int .i64 b], .agg #[.int .i64 e', .int .i64 a', .int .i64 b']] w fun en w' => en = .returned (.tuple #[.agg #[.int .i64 (iz (decide (X % nmI e' a' = 0)) (X / nmI e' a')), .int .i64 (iz (decide (X % nmI e' a' = 0)) Y), .int .i64 (iz (decide (X % nmI e' a' = 0)) Z)], .bool (decide (X % nmI e' a' = 0))]) ∧ Below w.heap.size w w' := by
  obtain ⟨n1, n2, _, _, n0⟩ := nmI_bd h'
  have nz : ¬ nmI e' a' = 0 := by omega
  have q0 := Int.ediv_nonneg x0 (show 0 ≤ nmI e' a' by omega)
  have q1 := Int.ediv_le_self (nmI e' a') x0
  have hC : Hid (∀ w1, Calls Try.prog 80 #[.agg #[.int .i64 e', .int .i64 a', .int .i64 b']] w1 fun en w' => en = .returned (.agg #[.int .i64 e', .int .i64 a', .int .i64 (cjB a' b')]) ∧ Below w1.heap.size w1 w') := fun w1 => specConj_any d e' a' b' w1 h'
  have hN : Hid (∀ w1, Calls Try.prog 81 #[.agg #[.int .i64 e', .int .i64 a', .int .i64 b']] w1 fun en w' => en = .returned (.int .i64 (nmI e' a')) ∧ Below w1.heap.size w1 w') := fun w1 => specNorm_any d e' a' b' w1 h'
  clear h h'
  generalize cjB a' b' = cj at *
  generalize hn : nmI e' a' = N at *
  clear hn
  by_cases c : X % N = 0
  · have hz : (X % N == 0) = true := by simp [c]
    rw [decide_eq_true c]
    clear c
    go_enter Try.func54, Try.ntmps54
    go_wp2_with fail
    refine region_mixed 5 (by kernel_rfl) (by kernel_rfl) (by kernel_rfl) ?_
    apply Exists.intro
    refine ⟨fun w0 hw0 => ?_, ?_⟩
    · obtain ⟨hC0, hF0⟩ := bcell hw0
      have hS0 := hw0.size
      (try simp at hS0)
      (try have hS0_w0 : w.heap.size < w0.heap.size := by omega)
      (try have hS0_w1 : w.heap.size + 1 < w0.heap.size := by omega)
      (try have hS0_w2 : w.heap.size + 1 + 1 < w0.heap.size := by omega)
      (try have hS0_w3 : w.heap.size + 1 + 1 + 1 < w0.heap.size := by omega)
      (try have hS0_w4 : w.heap.size + 1 + 1 + 1 + 1 < w0.heap.size := by omega)
      (try have hL0_w0 : w.heap.size ≤ w0.heap.size := by omega)
      (try have hL0_w1 : w.heap.size + 1 ≤ w0.heap.size := by omega)
      (try have hL0_w2 : w.heap.size + 1 + 1 ≤ w0.heap.size := by omega)
      (try have hL0_w3 : w.heap.size + 1 + 1 + 1 ≤ w0.heap.size := by omega)
      (try have hL0_w : w.heap.size ≤ w0.heap.size + 1 := by omega)
      (try have hM0_1 : w.heap.size < w0.heap.size + 1 := by omega)
      (try have hM0_2 : w.heap.size < w0.heap.size + 1 + 1 := by omega)
      (try have hM0_3 : w.heap.size < w0.heap.size + 1 + 1 + 1 := by omega)
      (try have hN0_1_00 : w1.heap.size < w0.heap.size := by omega)
      (try have hN0_1_01 : w1.heap.size < w0.heap.size + 1 := by omega)
      (try have hN0_1_02 : w1.heap.size < w0.heap.size + 1 + 1 := by omega)
      (try have hN0_1_10 : w1.heap.size + 1 < w0.heap.size := by omega)
      (try have hN0_1_11 : w1.heap.size + 1 < w0.heap.size + 1 := by omega)
      (try have hN0_1_12 : w1.heap.size + 1 < w0.heap.size + 1 + 1 := by omega)
      (try have hN0_1_20 : w1.heap.size + 1 + 1 < w0.heap.size := by omega)
      (try have hN0_1_21 : w1.heap.size + 1 + 1 < w0.heap.size + 1 := by omega)
      (try have hN0_1_22 : w1.heap.size + 1 + 1 < w0.heap.size + 1 + 1 := by omega)
      (try have hN0_2_00 : w2.heap.size < w0.heap.size := by omega)
      (try have hN0_2_01 : w2.heap.size < w0.heap.size + 1 := by omega)
      (try have hN0_2_02 : w2.heap.size < w0.heap.size + 1 + 1 := by omega)
      (try have hN0_2_10 : w2.heap.size + 1 < w0.heap.size := by omega)
      (try have hN0_2_11 : w2.heap.size + 1 < w0.heap.size + 1 := by omega)
      (try have hN0_2_12 : w2.heap.size + 1 < w0.heap.size + 1 + 1 := by omega)
      (try have hN0_2_20 : w2.heap.size + 1 + 1 < w0.heap.size := by omega)
      (try have hN0_2_21 : w2.heap.size + 1 + 1 < w0.heap.size + 1 := by omega)
      (try have hN0_2_22 : w2.heap.size + 1 + 1 < w0.heap.size + 1 + 1 := by omega)
      (try have hL0_1 : w1.heap.size ≤ w0.heap.size := by omega)
      (try have hL0_2 : w2.heap.size ≤ w0.heap.size := by omega)
      (try have hS0_1 : w1.heap.size < w0.heap.size := by omega)
      (try have hS0_1' : w1.heap.size + 1 < w0.heap.size := by omega)
      (try have hS0_2 : w2.heap.size < w0.heap.size := by omega)
      (try have hS0_2' : w2.heap.size + 1 < w0.heap.size := by omega)
      simp only [List.take_succ_cons, List.take_zero]
      repeat (first | go_big_quiet_skip | (go_big_quiet_want; go_big_quiet_op; first | go_big_quiet_on | (apply Exists.intro; refine ⟨fun _ => ?_, ?_⟩; (focus (first | (go_at_call 80; exact past_of (hC.out _)) | (go_at_call 45; exact past_of (hT.out _)))); go_big_quiet_on)))
      refine wpQuiet_nil ?_
      rfl
    intro W hW hWz
    simp only [List.drop_succ_cons, List.drop_zero]
    refine eff_new #[.int .i64 0, .int .i64 0, .int .i64 0] 34 [.int .i64 X, .int .i64 Y, .int .i64 Z] rfl rfl rfl rfl (fun _ => by simp [go_sem]) (cl_refl _) (fun wa wb hb => ?_) (fun w3 hV3 => ?_)
    · obtain ⟨hc, hf⟩ := bnew hb
      refine ⟨.skip, ?_, Or.inl rfl⟩
      simp [go_sem, setAll, Act.put, hc, hf]
    have hB3 := hW.trans (hV3.mono hW.size)
    obtain ⟨hC3, hF3⟩ := bcell hB3
    have hS3 := hB3.size
    (try simp at hS3)
    (try have hS3_w0 : w.heap.size < w3.heap.size := by omega)
    (try have hS3_w1 : w.heap.size + 1 < w3.heap.size := by omega)
    (try have hS3_w2 : w.heap.size + 1 + 1 < w3.heap.size := by omega)
    (try have hS3_w3 : w.heap.size + 1 + 1 + 1 < w3.heap.size := by omega)
    (try have hS3_w4 : w.heap.size + 1 + 1 + 1 + 1 < w3.heap.size := by omega)
    (try have hL3_w0 : w.heap.size ≤ w3.heap.size := by omega)
    (try have hL3_w1 : w.heap.size + 1 ≤ w3.heap.size := by omega)
    (try have hL3_w2 : w.heap.size + 1 + 1 ≤ w3.heap.size := by omega)
    (try have hL3_w3 : w.heap.size + 1 + 1 + 1 ≤ w3.heap.size := by omega)
    (try have hL3_w : w.heap.size ≤ w3.heap.size + 1 := by omega)
    (try have hM3_1 : w.heap.size < w3.heap.size + 1 := by omega)
    (try have hM3_2 : w.heap.size < w3.heap.size + 1 + 1 := by omega)
    (try have hM3_3 : w.heap.size < w3.heap.size + 1 + 1 + 1 := by omega)
    (try have hN3_1_00 : w1.heap.size < w3.heap.size := by omega)
    (try have hN3_1_01 : w1.heap.size < w3.heap.size + 1 := by omega)
    (try have hN3_1_02 : w1.heap.size < w3.heap.size + 1 + 1 := by omega)
    (try have hN3_1_10 : w1.heap.size + 1 < w3.heap.size := by omega)
    (try have hN3_1_11 : w1.heap.size + 1 < w3.heap.size + 1 := by omega)
    (try have hN3_1_12 : w1.heap.size + 1 < w3.heap.size + 1 + 1 := by omega)
    (try have hN3_1_20 : w1.heap.size + 1 + 1 < w3.heap.size := by omega)
    (try have hN3_1_21 : w1.heap.size + 1 + 1 < w3.heap.size + 1 := by omega)
    (try have hN3_1_22 : w1.heap.size + 1 + 1 < w3.heap.size + 1 + 1 := by omega)
    (try have hN3_2_00 : w2.heap.size < w3.heap.size := by omega)
    (try have hN3_2_01 : w2.heap.size < w3.heap.size + 1 := by omega)
    (try have hN3_2_02 : w2.heap.size < w3.heap.size + 1 + 1 := by omega)
    (try have hN3_2_10 : w2.heap.size + 1 < w3.heap.size := by omega)
    (try have hN3_2_11 : w2.heap.size + 1 < w3.heap.size + 1 := by omega)
    (try have hN3_2_12 : w2.heap.size + 1 < w3.heap.size + 1 + 1 := by omega)
    (try have hN3_2_20 : w2.heap.size + 1 + 1 < w3.heap.size := by omega)
    (try have hN3_2_21 : w2.heap.size + 1 + 1 < w3.heap.size + 1 := by omega)
    (try have hN3_2_22 : w2.heap.size + 1 + 1 < w3.heap.size + 1 + 1 := by omega)
    (try have hL3_1 : w1.heap.size ≤ w3.heap.size := by omega)
    (try have hL3_2 : w2.heap.size ≤ w3.heap.size := by omega)
    (try have hS3_1 : w1.heap.size < w3.heap.size := by omega)
    (try have hS3_1' : w1.heap.size + 1 < w3.heap.size := by omega)
    (try have hS3_2 : w2.heap.size < w3.heap.size := by omega)
    (try have hS3_2' : w2.heap.size + 1 < w3.heap.size := by omega)
    have hK : Cl W (w3.alloc (.cells #[.int .i64 X, .int .i64 Y, .int .i64 Z] 34)) := (cl_of hV3).alloc _
    clear hK
    intro w4 hV4
    have hB4 := past_below hV4
    clear hV3 hV4 hW hWz
    obtain ⟨hC4, hF4⟩ := bcell hB4
    have hS4 := hB4.size
    (try simp at hS4)
    (try have hS4_w0 : w.heap.size < w4.heap.size := by omega)
    (try have hS4_w1 : w.heap.size + 1 < w4.heap.size := by omega)
    (try have hS4_w2 : w.heap.size + 1 + 1 < w4.heap.size := by omega)
    (try have hS4_w3 : w.heap.size + 1 + 1 + 1 < w4.heap.size := by omega)
    (try have hS4_w4 : w.heap.size + 1 + 1 + 1 + 1 < w4.heap.size := by omega)
    (try have hL4_w0 : w.heap.size ≤ w4.heap.size := by omega)
    (try have hL4_w1 : w.heap.size + 1 ≤ w4.heap.size := by omega)
    (try have hL4_w2 : w.heap.size + 1 + 1 ≤ w4.heap.size := by omega)
    (try have hL4_w3 : w.heap.size + 1 + 1 + 1 ≤ w4.heap.size := by omega)
    (try have hL4_w : w.heap.size ≤ w4.heap.size + 1 := by omega)
    (try have hM4_1 : w.heap.size < w4.heap.size + 1 := by omega)
    (try have hM4_2 : w.heap.size < w4.heap.size + 1 + 1 := by omega)
    (try have hM4_3 : w.heap.size < w4.heap.size + 1 + 1 + 1 := by omega)
    (try have hN4_1_00 : w1.heap.size < w4.heap.size := by omega)
    (try have hN4_1_01 : w1.heap.size < w4.heap.size + 1 := by omega)
    (try have hN4_1_02 : w1.heap.size < w4.heap.size + 1 + 1 := by omega)
    (try have hN4_1_10 : w1.heap.size + 1 < w4.heap.size := by omega)
    (try have hN4_1_11 : w1.heap.size + 1 < w4.heap.size + 1 := by omega)
    (try have hN4_1_12 : w1.heap.size + 1 < w4.heap.size + 1 + 1 := by omega)
    (try have hN4_1_20 : w1.heap.size + 1 + 1 < w4.heap.size := by omega)
    (try have hN4_1_21 : w1.heap.size + 1 + 1 < w4.heap.size + 1 := by omega)
    (try have hN4_1_22 : w1.heap.size + 1 + 1 < w4.heap.size + 1 + 1 := by omega)
    (try have hN4_2_00 : w2.heap.size < w4.heap.size := by omega)
    (try have hN4_2_01 : w2.heap.size < w4.heap.size + 1 := by omega)
    (try have hN4_2_02 : w2.heap.size < w4.heap.size + 1 + 1 := by omega)
    (try have hN4_2_10 : w2.heap.size + 1 < w4.heap.size := by omega)
    (try have hN4_2_11 : w2.heap.size + 1 < w4.heap.size + 1 := by omega)
    (try have hN4_2_12 : w2.heap.size + 1 < w4.heap.size + 1 + 1 := by omega)
    (try have hN4_2_20 : w2.heap.size + 1 + 1 < w4.heap.size := by omega)
    (try have hN4_2_21 : w2.heap.size + 1 + 1 < w4.heap.size + 1 := by omega)
    (try have hN4_2_22 : w2.heap.size + 1 + 1 < w4.heap.size + 1 + 1 := by omega)
    (try have hN4_3_00 : w3.heap.size < w4.heap.size := by omega)
    (try have hN4_3_01 : w3.heap.size < w4.heap.size + 1 := by omega)
    (try have hN4_3_02 : w3.heap.size < w4.heap.size + 1 + 1 := by omega)
    (try have hN4_3_10 : w3.heap.size + 1 < w4.heap.size := by omega)
    (try have hN4_3_11 : w3.heap.size + 1 < w4.heap.size + 1 := by omega)
    (try have hN4_3_12 : w3.heap.size + 1 < w4.heap.size + 1 + 1 := by omega)
    (try have hN4_3_20 : w3.heap.size + 1 + 1 < w4.heap.size := by omega)
    (try have hN4_3_21 : w3.heap.size + 1 + 1 < w4.heap.size + 1 := by omega)
    (try have hN4_3_22 : w3.heap.size + 1 + 1 < w4.heap.size + 1 + 1 := by omega)
    (try have hL4_1 : w1.heap.size ≤ w4.heap.size := by omega)
    (try have hL4_2 : w2.heap.size ≤ w4.heap.size := by omega)
    (try have hL4_3 : w3.heap.size ≤ w4.heap.size := by omega)
    (try have hS4_1 : w1.heap.size < w4.heap.size := by omega)
    (try have hS4_1' : w1.heap.size + 1 < w4.heap.size := by omega)
    (try have hS4_2 : w2.heap.size < w4.heap.size := by omega)
    (try have hS4_2' : w2.heap.size + 1 < w4.heap.size := by omega)
    (try have hS4_3 : w3.heap.size < w4.heap.size := by omega)
    (try have hS4_3' : w3.heap.size + 1 < w4.heap.size := by omega)
    simp only [Act.put, Act.eval, List.setIfInBounds_toArray, List.set_cons_zero, List.set_cons_succ]
    go_wp2_with fail
    refine (hN.out _).mono ?_
    rintro e1 w1 ⟨rfl, hB1⟩
    obtain ⟨hC1, hF1⟩ := bcell hB1
    have hS1 := hB1.size
    (try simp at hS1)
    (try have hS1_w0 : w.heap.size < w1.heap.size := by omega)
    (try have hS1_w1 : w.heap.size + 1 < w1.heap.size := by omega)
    (try have hS1_w2 : w.heap.size + 1 + 1 < w1.heap.size := by omega)
    (try have hS1_w3 : w.heap.size + 1 + 1 + 1 < w1.heap.size := by omega)
    (try have hS1_w4 : w.heap.size + 1 + 1 + 1 + 1 < w1.heap.size := by omega)
    (try have hL1_w0 : w.heap.size ≤ w1.heap.size := by omega)
    (try have hL1_w1 : w.heap.size + 1 ≤ w1.heap.size := by omega)
    (try have hL1_w2 : w.heap.size + 1 + 1 ≤ w1.heap.size := by omega)
    (try have hL1_w3 : w.heap.size + 1 + 1 + 1 ≤ w1.heap.size := by omega)
    (try have hL1_w : w.heap.size ≤ w1.heap.size + 1 := by omega)
    (try have hM1_1 : w.heap.size < w1.heap.size + 1 := by omega)
    (try have hM1_2 : w.heap.size < w1.heap.size + 1 + 1 := by omega)
    (try have hM1_3 : w.heap.size < w1.heap.size + 1 + 1 + 1 := by omega)
    have hZc : ∀ o, w1.cell? ⟨w3.heap.size, o, none⟩ = (#[.int .i64 X, .int .i64 Y, .int .i64 Z] : Array Value)[o]? := by (intro o; (repeat (first | ((with_reducible refine (cell_alloc_old _ _ _ _ ?_).trans ?_); (focus (first | omega | (simp <;> omega)))) | ((with_reducible refine (bC (by assumption) ?_).trans ?_); (focus (first | omega | (simp <;> omega)))) | ((with_reducible refine (bG (by assumption) ?_).trans ?_); (focus (first | omega | (simp <;> omega)))))); simp [go_sem])
    have hZs : w3.heap.size < w1.heap.size := by omega
    have hZ0 : w1.cell? ⟨w3.heap.size, 0, none⟩ = some (.int .i64 X) := hZc 0
    have hZ1 : w1.cell? ⟨w3.heap.size, 1, none⟩ = some (.int .i64 Y) := hZc 1
    have hZ2 : w1.cell? ⟨w3.heap.size, 2, none⟩ = some (.int .i64 Z) := hZc 2
    go_wp2_with fail
    refine wp_region_past_tail 9 (by kernel_rfl) (by kernel_rfl) ?_
    simp only [List.take_succ_cons, List.take_zero, List.drop_succ_cons, List.drop_zero]
    repeat (first | go_big_quiet_skip | (go_big_quiet_want; go_big_quiet_op; first | go_big_quiet_on | (apply Exists.intro; refine ⟨fun _ => ?_, ?_⟩; (focus (fail)); go_big_quiet_on)))
    refine wpQuiet_nil ?_
    intro w7 hw'
    have hB7 := past_below hw'
    clear hw'
    obtain ⟨hC7, hF7⟩ := bcell hB7
    have hS7 := hB7.size
    (try simp at hS7)
    (try have hS7_w0 : w.heap.size < w7.heap.size := by omega)
    (try have hS7_w1 : w.heap.size + 1 < w7.heap.size := by omega)
    (try have hS7_w2 : w.heap.size + 1 + 1 < w7.heap.size := by omega)
    (try have hS7_w3 : w.heap.size + 1 + 1 + 1 < w7.heap.size := by omega)
    (try have hS7_w4 : w.heap.size + 1 + 1 + 1 + 1 < w7.heap.size := by omega)
    (try have hS7_1 : w1.heap.size < w7.heap.size := by omega)
    (try have hS7_2 : w2.heap.size < w7.heap.size := by omega)
    (try have hS7_3 : w3.heap.size < w7.heap.size := by omega)
    (try have hS7_4 : w4.heap.size < w7.heap.size := by omega)
    (try have hS7_5 : w5.heap.size < w7.heap.size := by omega)
    (try have hS7_6 : w6.heap.size < w7.heap.size := by omega)
    (try have hS7_1' : w1.heap.size + 1 < w7.heap.size := by omega)
    (try have hS7_2' : w2.heap.size + 1 < w7.heap.size := by omega)
    (try have hS7_3' : w3.heap.size + 1 < w7.heap.size := by omega)
    (try have hS7_4' : w4.heap.size + 1 < w7.heap.size := by omega)
    (try have hS7_5' : w5.heap.size + 1 < w7.heap.size := by omega)
    (try have hS7_6' : w6.heap.size + 1 < w7.heap.size := by omega)
    go_wp2_with fail
    (refine bodyPost_ret (v := .tuple #[.agg #[.int .i64 (X / N), .int .i64 Y, .int .i64 Z], .bool true]) ?_ rfl ⟨?_, ?_⟩; (focus (go_light; first | (simp [results, Try.results54, go_sem, *]; done) | (simp (disch := first | omega | (simp <;> omega) | (refine isSome_of ?_ ?_; (focus ((repeat (first | ((with_reducible refine (cell_alloc_old _ _ _ _ ?_).trans ?_); (focus (first | omega | (simp <;> omega)))) | ((with_reducible refine (bG (by assumption) ?_).trans ?_); (focus (first | omega | (simp <;> omega)))))); exact rfl)); simp [go_sem]) | fail) [results, Try.results54, go_sem, *]; done))); (focus (rfl)); repeat (first | with_reducible exact Below.refl _ _ | with_reducible assumption | ((with_reducible refine blA ?_ ?_); (focus (first | omega | (simp <;> omega)))) | (with_reducible refine blD ?_) | (with_reducible refine blN ?_) | ((with_reducible refine blS ?_ ?_); (focus (first | omega | (simp <;> omega)))) | ((with_reducible refine blT (by assumption) ?_ ?_); (focus (first | omega | (simp <;> omega))))))
  · have hz : (X % N == 0) = false := by simp [c]
    rw [decide_eq_false c]
    clear c
    go_enter Try.func54, Try.ntmps54
    go_wp2_with fail
    refine region_mixed 5 (by kernel_rfl) (by kernel_rfl) (by kernel_rfl) ?_
    apply Exists.intro
    refine ⟨fun w0 hw0 => ?_, ?_⟩
    · obtain ⟨hC0, hF0⟩ := bcell hw0
      have hS0 := hw0.size
      (try simp at hS0)
      (try have hS0_w0 : w.heap.size < w0.heap.size := by omega)
      (try have hS0_w1 : w.heap.size + 1 < w0.heap.size := by omega)
      (try have hS0_w2 : w.heap.size + 1 + 1 < w0.heap.size := by omega)
      (try have hS0_w3 : w.heap.size + 1 + 1 + 1 < w0.heap.size := by omega)
      (try have hS0_w4 : w.heap.size + 1 + 1 + 1 + 1 < w0.heap.size := by omega)
      (try have hL0_w0 : w.heap.size ≤ w0.heap.size := by omega)
      (try have hL0_w1 : w.heap.size + 1 ≤ w0.heap.size := by omega)
      (try have hL0_w2 : w.heap.size + 1 + 1 ≤ w0.heap.size := by omega)
      (try have hL0_w3 : w.heap.size + 1 + 1 + 1 ≤ w0.heap.size := by omega)
      (try have hL0_w : w.heap.size ≤ w0.heap.size + 1 := by omega)
      (try have hM0_1 : w.heap.size < w0.heap.size + 1 := by omega)
      (try have hM0_2 : w.heap.size < w0.heap.size + 1 + 1 := by omega)
      (try have hM0_3 : w.heap.size < w0.heap.size + 1 + 1 + 1 := by omega)
      (try have hN0_2_00 : w2.heap.size < w0.heap.size := by omega)
      (try have hN0_2_01 : w2.heap.size < w0.heap.size + 1 := by omega)
      (try have hN0_2_02 : w2.heap.size < w0.heap.size + 1 + 1 := by omega)
      (try have hN0_2_10 : w2.heap.size + 1 < w0.heap.size := by omega)
      (try have hN0_2_11 : w2.heap.size + 1 < w0.heap.size + 1 := by omega)
      (try have hN0_2_12 : w2.heap.size + 1 < w0.heap.size + 1 + 1 := by omega)
      (try have hN0_2_20 : w2.heap.size + 1 + 1 < w0.heap.size := by omega)
      (try have hN0_2_21 : w2.heap.size + 1 + 1 < w0.heap.size + 1 := by omega)
      (try have hN0_2_22 : w2.heap.size + 1 + 1 < w0.heap.size + 1 + 1 := by omega)
      (try have hN0_3_00 : w3.heap.size < w0.heap.size := by omega)
      (try have hN0_3_01 : w3.heap.size < w0.heap.size + 1 := by omega)
      (try have hN0_3_02 : w3.heap.size < w0.heap.size + 1 + 1 := by omega)
      (try have hN0_3_10 : w3.heap.size + 1 < w0.heap.size := by omega)
      (try have hN0_3_11 : w3.heap.size + 1 < w0.heap.size + 1 := by omega)
      (try have hN0_3_12 : w3.heap.size + 1 < w0.heap.size + 1 + 1 := by omega)
      (try have hN0_3_20 : w3.heap.size + 1 + 1 < w0.heap.size := by omega)
      (try have hN0_3_21 : w3.heap.size + 1 + 1 < w0.heap.size + 1 := by omega)
      (try have hN0_3_22 : w3.heap.size + 1 + 1 < w0.heap.size + 1 + 1 := by omega)
      (try have hN0_4_00 : w4.heap.size < w0.heap.size := by omega)
      (try have hN0_4_01 : w4.heap.size < w0.heap.size + 1 := by omega)
      (try have hN0_4_02 : w4.heap.size < w0.heap.size + 1 + 1 := by omega)
      (try have hN0_4_10 : w4.heap.size + 1 < w0.heap.size := by omega)
      (try have hN0_4_11 : w4.heap.size + 1 < w0.heap.size + 1 := by omega)
      (try have hN0_4_12 : w4.heap.size + 1 < w0.heap.size + 1 + 1 := by omega)
      (try have hN0_4_20 : w4.heap.size + 1 + 1 < w0.heap.size := by omega)
      (try have hN0_4_21 : w4.heap.size + 1 + 1 < w0.heap.size + 1 := by omega)
      (try have hN0_4_22 : w4.heap.size + 1 + 1 < w0.heap.size + 1 + 1 := by omega)
      (try have hL0_1 : w1.heap.size ≤ w0.heap.size := by omega)
      (try have hL0_2 : w2.heap.size ≤ w0.heap.size := by omega)
      (try have hL0_3 : w3.heap.size ≤ w0.heap.size := by omega)
      (try have hL0_4 : w4.heap.size ≤ w0.heap.size := by omega)
      (try have hS0_1 : w1.heap.size < w0.heap.size := by omega)
      (try have hS0_1' : w1.heap.size + 1 < w0.heap.size := by omega)
      (try have hS0_2 : w2.heap.size < w0.heap.size := by omega)
      (try have hS0_2' : w2.heap.size + 1 < w0.heap.size := by omega)
      (try have hS0_3 : w3.heap.size < w0.heap.size := by omega)
      (try have hS0_3' : w3.heap.size + 1 < w0.heap.size := by omega)
      (try have hS0_4 : w4.heap.size < w0.heap.size := by omega)
      (try have hS0_4' : w4.heap.size + 1 < w0.heap.size := by omega)
      simp only [List.take_succ_cons, List.take_zero]
      repeat (first | go_big_quiet_skip | (go_big_quiet_want; go_big_quiet_op; first | go_big_quiet_on | (apply Exists.intro; refine ⟨fun _ => ?_, ?_⟩; (focus (first | (go_at_call 80; exact past_of (hC.out _)) | (go_at_call 45; exact past_of (hT.out _)))); go_big_quiet_on)))
      refine wpQuiet_nil ?_
      rfl
    intro W hW hWz
    simp only [List.drop_succ_cons, List.drop_zero]
    refine eff_new #[.int .i64 0, .int .i64 0, .int .i64 0] 34 [.int .i64 X, .int .i64 Y, .int .i64 Z] rfl rfl rfl rfl (fun _ => by simp [go_sem]) (cl_refl _) (fun wa wb hb => ?_) (fun w5 hV5 => ?_)
    · obtain ⟨hc, hf⟩ := bnew hb
      refine ⟨.skip, ?_, Or.inl rfl⟩
      simp [go_sem, setAll, Act.put, hc, hf]
    have hB5 := hW.trans (hV5.mono hW.size)
    obtain ⟨hC5, hF5⟩ := bcell hB5
    have hS5 := hB5.size
    (try simp at hS5)
    (try have hS5_w0 : w.heap.size < w5.heap.size := by omega)
    (try have hS5_w1 : w.heap.size + 1 < w5.heap.size := by omega)
    (try have hS5_w2 : w.heap.size + 1 + 1 < w5.heap.size := by omega)
    (try have hS5_w3 : w.heap.size + 1 + 1 + 1 < w5.heap.size := by omega)
    (try have hS5_w4 : w.heap.size + 1 + 1 + 1 + 1 < w5.heap.size := by omega)
    (try have hL5_w0 : w.heap.size ≤ w5.heap.size := by omega)
    (try have hL5_w1 : w.heap.size + 1 ≤ w5.heap.size := by omega)
    (try have hL5_w2 : w.heap.size + 1 + 1 ≤ w5.heap.size := by omega)
    (try have hL5_w3 : w.heap.size + 1 + 1 + 1 ≤ w5.heap.size := by omega)
    (try have hL5_w : w.heap.size ≤ w5.heap.size + 1 := by omega)
    (try have hM5_1 : w.heap.size < w5.heap.size + 1 := by omega)
    (try have hM5_2 : w.heap.size < w5.heap.size + 1 + 1 := by omega)
    (try have hM5_3 : w.heap.size < w5.heap.size + 1 + 1 + 1 := by omega)
    (try have hN5_2_00 : w2.heap.size < w5.heap.size := by omega)
    (try have hN5_2_01 : w2.heap.size < w5.heap.size + 1 := by omega)
    (try have hN5_2_02 : w2.heap.size < w5.heap.size + 1 + 1 := by omega)
    (try have hN5_2_10 : w2.heap.size + 1 < w5.heap.size := by omega)
    (try have hN5_2_11 : w2.heap.size + 1 < w5.heap.size + 1 := by omega)
    (try have hN5_2_12 : w2.heap.size + 1 < w5.heap.size + 1 + 1 := by omega)
    (try have hN5_2_20 : w2.heap.size + 1 + 1 < w5.heap.size := by omega)
    (try have hN5_2_21 : w2.heap.size + 1 + 1 < w5.heap.size + 1 := by omega)
    (try have hN5_2_22 : w2.heap.size + 1 + 1 < w5.heap.size + 1 + 1 := by omega)
    (try have hN5_3_00 : w3.heap.size < w5.heap.size := by omega)
    (try have hN5_3_01 : w3.heap.size < w5.heap.size + 1 := by omega)
    (try have hN5_3_02 : w3.heap.size < w5.heap.size + 1 + 1 := by omega)
    (try have hN5_3_10 : w3.heap.size + 1 < w5.heap.size := by omega)
    (try have hN5_3_11 : w3.heap.size + 1 < w5.heap.size + 1 := by omega)
    (try have hN5_3_12 : w3.heap.size + 1 < w5.heap.size + 1 + 1 := by omega)
    (try have hN5_3_20 : w3.heap.size + 1 + 1 < w5.heap.size := by omega)
    (try have hN5_3_21 : w3.heap.size + 1 + 1 < w5.heap.size + 1 := by omega)
    (try have hN5_3_22 : w3.heap.size + 1 + 1 < w5.heap.size + 1 + 1 := by omega)
    (try have hN5_4_00 : w4.heap.size < w5.heap.size := by omega)
    (try have hN5_4_01 : w4.heap.size < w5.heap.size + 1 := by omega)
    (try have hN5_4_02 : w4.heap.size < w5.heap.size + 1 + 1 := by omega)
    (try have hN5_4_10 : w4.heap.size + 1 < w5.heap.size := by omega)
    (try have hN5_4_11 : w4.heap.size + 1 < w5.heap.size + 1 := by omega)
    (try have hN5_4_12 : w4.heap.size + 1 < w5.heap.size + 1 + 1 := by omega)
    (try have hN5_4_20 : w4.heap.size + 1 + 1 < w5.heap.size := by omega)
    (try have hN5_4_21 : w4.heap.size + 1 + 1 < w5.heap.size + 1 := by omega)
    (try have hN5_4_22 : w4.heap.size + 1 + 1 < w5.heap.size + 1 + 1 := by omega)
    (try have hL5_1 : w1.heap.size ≤ w5.heap.size := by omega)
    (try have hL5_2 : w2.heap.size ≤ w5.heap.size := by omega)
    (try have hL5_3 : w3.heap.size ≤ w5.heap.size := by omega)
    (try have hL5_4 : w4.heap.size ≤ w5.heap.size := by omega)
    (try have hS5_1 : w1.heap.size < w5.heap.size := by omega)
    (try have hS5_1' : w1.heap.size + 1 < w5.heap.size := by omega)
    (try have hS5_2 : w2.heap.size < w5.heap.size := by omega)
    (try have hS5_2' : w2.heap.size + 1 < w5.heap.size := by omega)
    (try have hS5_3 : w3.heap.size < w5.heap.size := by omega)
    (try have hS5_3' : w3.heap.size + 1 < w5.heap.size := by omega)
    (try have hS5_4 : w4.heap.size < w5.heap.size := by omega)
    (try have hS5_4' : w4.heap.size + 1 < w5.heap.size := by omega)
    have hK : Cl W (w5.alloc (.cells #[.int .i64 X, .int .i64 Y, .int .i64 Z] 34)) := (cl_of hV5).alloc _
    clear hK
    intro w6 hV6
    have hB6 := past_below hV6
    clear hV5 hV6 hW hWz
    obtain ⟨hC6, hF6⟩ := bcell hB6
    have hS6 := hB6.size
    (try simp at hS6)
    (try have hS6_w0 : w.heap.size < w6.heap.size := by omega)
    (try have hS6_w1 : w.heap.size + 1 < w6.heap.size := by omega)
    (try have hS6_w2 : w.heap.size + 1 + 1 < w6.heap.size := by omega)
    (try have hS6_w3 : w.heap.size + 1 + 1 + 1 < w6.heap.size := by omega)
    (try have hS6_w4 : w.heap.size + 1 + 1 + 1 + 1 < w6.heap.size := by omega)
    (try have hL6_w0 : w.heap.size ≤ w6.heap.size := by omega)
    (try have hL6_w1 : w.heap.size + 1 ≤ w6.heap.size := by omega)
    (try have hL6_w2 : w.heap.size + 1 + 1 ≤ w6.heap.size := by omega)
    (try have hL6_w3 : w.heap.size + 1 + 1 + 1 ≤ w6.heap.size := by omega)
    (try have hL6_w : w.heap.size ≤ w6.heap.size + 1 := by omega)
    (try have hM6_1 : w.heap.size < w6.heap.size + 1 := by omega)
    (try have hM6_2 : w.heap.size < w6.heap.size + 1 + 1 := by omega)
    (try have hM6_3 : w.heap.size < w6.heap.size + 1 + 1 + 1 := by omega)
    (try have hN6_3_00 : w3.heap.size < w6.heap.size := by omega)
    (try have hN6_3_01 : w3.heap.size < w6.heap.size + 1 := by omega)
    (try have hN6_3_02 : w3.heap.size < w6.heap.size + 1 + 1 := by omega)
    (try have hN6_3_10 : w3.heap.size + 1 < w6.heap.size := by omega)
    (try have hN6_3_11 : w3.heap.size + 1 < w6.heap.size + 1 := by omega)
    (try have hN6_3_12 : w3.heap.size + 1 < w6.heap.size + 1 + 1 := by omega)
    (try have hN6_3_20 : w3.heap.size + 1 + 1 < w6.heap.size := by omega)
    (try have hN6_3_21 : w3.heap.size + 1 + 1 < w6.heap.size + 1 := by omega)
    (try have hN6_3_22 : w3.heap.size + 1 + 1 < w6.heap.size + 1 + 1 := by omega)
    (try have hN6_4_00 : w4.heap.size < w6.heap.size := by omega)
    (try have hN6_4_01 : w4.heap.size < w6.heap.size + 1 := by omega)
    (try have hN6_4_02 : w4.heap.size < w6.heap.size + 1 + 1 := by omega)
    (try have hN6_4_10 : w4.heap.size + 1 < w6.heap.size := by omega)
    (try have hN6_4_11 : w4.heap.size + 1 < w6.heap.size + 1 := by omega)
    (try have hN6_4_12 : w4.heap.size + 1 < w6.heap.size + 1 + 1 := by omega)
    (try have hN6_4_20 : w4.heap.size + 1 + 1 < w6.heap.size := by omega)
    (try have hN6_4_21 : w4.heap.size + 1 + 1 < w6.heap.size + 1 := by omega)
    (try have hN6_4_22 : w4.heap.size + 1 + 1 < w6.heap.size + 1 + 1 := by omega)
    (try have hN6_5_00 : w5.heap.size < w6.heap.size := by omega)
    (try have hN6_5_01 : w5.heap.size < w6.heap.size + 1 := by omega)
    (try have hN6_5_02 : w5.heap.size < w6.heap.size + 1 + 1 := by omega)
    (try have hN6_5_10 : w5.heap.size + 1 < w6.heap.size := by omega)
    (try have hN6_5_11 : w5.heap.size + 1 < w6.heap.size + 1 := by omega)
    (try have hN6_5_12 : w5.heap.size + 1 < w6.heap.size + 1 + 1 := by omega)
    (try have hN6_5_20 : w5.heap.size + 1 + 1 < w6.heap.size := by omega)
    (try have hN6_5_21 : w5.heap.size + 1 + 1 < w6.heap.size + 1 := by omega)
    (try have hN6_5_22 : w5.heap.size + 1 + 1 < w6.heap.size + 1 + 1 := by omega)
    (try have hL6_1 : w1.heap.size ≤ w6.heap.size := by omega)
    (try have hL6_2 : w2.heap.size ≤ w6.heap.size := by omega)
    (try have hL6_3 : w3.heap.size ≤ w6.heap.size := by omega)
    (try have hL6_4 : w4.heap.size ≤ w6.heap.size := by omega)
    (try have hL6_5 : w5.heap.size ≤ w6.heap.size := by omega)
    (try have hS6_1 : w1.heap.size < w6.heap.size := by omega)
    (try have hS6_1' : w1.heap.size + 1 < w6.heap.size := by omega)
    (try have hS6_2 : w2.heap.size < w6.heap.size := by omega)
    (try have hS6_2' : w2.heap.size + 1 < w6.heap.size := by omega)
    (try have hS6_3 : w3.heap.size < w6.heap.size := by omega)
    (try have hS6_3' : w3.heap.size + 1 < w6.heap.size := by omega)
    (try have hS6_4 : w4.heap.size < w6.heap.size := by omega)
    (try have hS6_4' : w4.heap.size + 1 < w6.heap.size := by omega)
    (try have hS6_5 : w5.heap.size < w6.heap.size := by omega)
    (try have hS6_5' : w5.heap.size + 1 < w6.heap.size := by omega)
    simp only [Act.put, Act.eval, List.setIfInBounds_toArray, List.set_cons_zero, List.set_cons_succ]
    go_wp2_with fail
    refine (hN.out _).mono ?_
    rintro e2 w2 ⟨rfl, hB2⟩
    obtain ⟨hC2, hF2⟩ := bcell hB2
    have hS2 := hB2.size
    (try simp at hS2)
    (try have hS2_w0 : w.heap.size < w2.heap.size := by omega)
    (try have hS2_w1 : w.heap.size + 1 < w2.heap.size := by omega)
    (try have hS2_w2 : w.heap.size + 1 + 1 < w2.heap.size := by omega)
    (try have hS2_w3 : w.heap.size + 1 + 1 + 1 < w2.heap.size := by omega)
    (try have hS2_w4 : w.heap.size + 1 + 1 + 1 + 1 < w2.heap.size := by omega)
    (try have hL2_w0 : w.heap.size ≤ w2.heap.size := by omega)
    (try have hL2_w1 : w.heap.size + 1 ≤ w2.heap.size := by omega)
    (try have hL2_w2 : w.heap.size + 1 + 1 ≤ w2.heap.size := by omega)
    (try have hL2_w3 : w.heap.size + 1 + 1 + 1 ≤ w2.heap.size := by omega)
    (try have hL2_w : w.heap.size ≤ w2.heap.size + 1 := by omega)
    (try have hM2_1 : w.heap.size < w2.heap.size + 1 := by omega)
    (try have hM2_2 : w.heap.size < w2.heap.size + 1 + 1 := by omega)
    (try have hM2_3 : w.heap.size < w2.heap.size + 1 + 1 + 1 := by omega)
    (try have hN2_1_00 : w1.heap.size < w2.heap.size := by omega)
    (try have hN2_1_01 : w1.heap.size < w2.heap.size + 1 := by omega)
    (try have hN2_1_02 : w1.heap.size < w2.heap.size + 1 + 1 := by omega)
    (try have hN2_1_10 : w1.heap.size + 1 < w2.heap.size := by omega)
    (try have hN2_1_11 : w1.heap.size + 1 < w2.heap.size + 1 := by omega)
    (try have hN2_1_12 : w1.heap.size + 1 < w2.heap.size + 1 + 1 := by omega)
    (try have hN2_1_20 : w1.heap.size + 1 + 1 < w2.heap.size := by omega)
    (try have hN2_1_21 : w1.heap.size + 1 + 1 < w2.heap.size + 1 := by omega)
    (try have hN2_1_22 : w1.heap.size + 1 + 1 < w2.heap.size + 1 + 1 := by omega)
    (try have hL2_1 : w1.heap.size ≤ w2.heap.size := by omega)
    (try have hS2_1 : w1.heap.size < w2.heap.size := by omega)
    (try have hS2_1' : w1.heap.size + 1 < w2.heap.size := by omega)
    go_wp2_with fail
    (refine bodyPost_ret (v := .tuple #[.agg #[.int .i64 0, .int .i64 0, .int .i64 0], .bool false]) ?_ rfl ⟨?_, ?_⟩; (focus (go_light; first | (simp [results, Try.results54, go_sem, *]; done) | (simp (disch := first | omega | (simp <;> omega) | (refine isSome_of ?_ ?_; (focus ((repeat (first | ((with_reducible refine (cell_alloc_old _ _ _ _ ?_).trans ?_); (focus (first | omega | (simp <;> omega)))) | ((with_reducible refine (bG (by assumption) ?_).trans ?_); (focus (first | omega | (simp <;> omega)))))); exact rfl)); simp [go_sem]) | fail) [results, Try.results54, go_sem, *]; done))); (focus (rfl)); repeat (first | with_reducible exact Below.refl _ _ | with_reducible assumption | ((with_reducible refine blA ?_ ?_); (focus (first | omega | (simp <;> omega)))) | (with_reducible refine blD ?_) | (with_reducible refine blN ?_) | ((with_reducible refine blS ?_ ?_); (focus (first | omega | (simp <;> omega)))) | ((with_reducible refine blT (by assumption) ?_ ?_); (focus (first | omega | (simp <;> omega))))))
/-- IdealQuotient's answer. -/
def quE (d e a b e' a' b' : Int) : Int := muE d e a b e' a' (cjB a' b')
def quA (d a b a' b' : Int) : Int := lA (mulL d a b a' (cjB a' b'))
def quB (d a b a' b' : Int) : Int := lB (mulL d a b a' (cjB a' b'))
def quG (d e a b e' a' b' : Int) : Bool := (fnB d && idB d e a b) && idB d e' a' b'
def quK (d e a b e' a' b' : Int) : Bool := decide (quE d e a b e' a' b' % nmI e' a' = 0) && idB d (quE d e a b e' a' b' / nmI e' a') (quA d a b a' b') (quB d a b a' b')
def quR (d e a b e' a' b' : Int) : (Int × Int × Int) × Bool := if quG d e a b e' a' b' && quK d e a b e' a' b' then ((quE d e a b e' a' b' / nmI e' a', quA d a b a' b', quB d a b a' b'), true) else ((0, 0, 0), false)
set_option maxRecDepth 100000 in
set_option maxHeartbeats 2000000 in
theorem implIdealQuotient_any (d e a b e' a' b' : Int) (w : World) (hd : I64 d) :
    Calls Try.prog 28 #[.int .i64 d, .agg #[.int .i64 e, .int .i64 a, .int .i64 b], .agg #[.int .i64 e', .int .i64 a', .int .i64 b']] w fun en w' => en = .returned (.tuple #[.agg #[.int .i64 ((quR d e a b e' a' b').1.1), .int .i64 ((quR d e a b e' a' b').1.2.1), .int .i64 ((quR d e a b e' a' b').1.2.2)], .bool (quR d e a b e' a' b').2]) ∧ Below w.heap.size w w' := by
  by_cases c : (fnB d && idB d e a b) = true
  · have cf : fnB d = true := by simp only [Bool.and_eq_true] at c; exact c.1
    have c1 : idB d e a b = true := by simp only [Bool.and_eq_true] at c; exact c.2
    have hw : Hid (∀ w1, Calls Try.prog 42 #[.int .i64 d, .agg #[.int .i64 e, .int .i64 a, .int .i64 b]] w1 fun en w' => en = .returned (.bool true) ∧ Below w1.heap.size w1 w') := fun w1 => by rw [← c]; exact isWhole_any d e a b w1 hd
    by_cases c2 : idB d e' a' b' = true
    · have hi : Hid (∀ w1, Calls Try.prog 49 #[.int .i64 d, .agg #[.int .i64 e', .int .i64 a', .int .i64 b']] w1 fun en w' => en = .returned (.bool true) ∧ Below w1.heap.size w1 w') := fun w1 => by rw [← c2]; exact isIdeal_any d e' a' b' w1 hd
      obtain ⟨x0, x1⟩ := muE_bd c1 (idB_cj c2)
      have hq : Hid (∀ w1, Calls Try.prog 56 #[.int .i64 d, .agg #[.int .i64 e, .int .i64 a, .int .i64 b], .agg #[.int .i64 e', .int .i64 a', .int .i64 b']] w1 fun en w' => en = .returned (.tuple #[.agg #[.int .i64 ((quR d e a b e' a' b').1.1), .int .i64 ((quR d e a b e' a' b').1.2.1), .int .i64 ((quR d e a b e' a' b').1.2.2)], .bool (quR d e a b e' a' b').2]) ∧ Below w1.heap.size w1 w') := fun w1 => by
        refine (implQuot_gen d e a b e' a' b' _ _ _ w1 hd c1 c2 (fun w1 => idealTimes_any d e a b e' a' (cjB a' b') w1 c1 (idB_cj c2)) x0 x1).mono fun en w' hh => ⟨hh.1.trans ?_, hh.2⟩
        have hR : quR d e a b e' a' b' = if quK d e a b e' a' b' then ((quE d e a b e' a' b' / nmI e' a', quA d a b a' b', quB d a b a' b'), true) else ((0, 0, 0), false) := by rw [quR, quG, c, c2]; rfl
        rw [hR]
        have hK : quK d e a b e' a' b' = (decide (muE d e a b e' a' (cjB a' b') % nmI e' a' = 0) && idB d (muE d e a b e' a' (cjB a' b') / nmI e' a') (lA (mulL d a b a' (cjB a' b'))) (lB (mulL d a b a' (cjB a' b')))) := rfl
        have hKK : ∀ k : Bool, k = quK d e a b e' a' b' → (.returned (.tuple #[.agg #[.int .i64 (iz k (quE d e a b e' a' b' / nmI e' a')), .int .i64 (iz k (quA d a b a' b')), .int .i64 (iz k (quB d a b a' b'))], .bool k]) : Ending) = .returned (.tuple #[.agg #[.int .i64 ((if quK d e a b e' a' b' then ((quE d e a b e' a' b' / nmI e' a', quA d a b a' b', quB d a b a' b'), true) else ((0, 0, 0), false)).1.1), .int .i64 ((if quK d e a b e' a' b' then ((quE d e a b e' a' b' / nmI e' a', quA d a b a' b', quB d a b a' b'), true) else ((0, 0, 0), false)).1.2.1), .int .i64 ((if quK d e a b e' a' b' then ((quE d e a b e' a' b' / nmI e' a', quA d a b a' b', quB d a b a' b'), true) else ((0, 0, 0), false)).1.2.2)], .bool (if quK d e a b e' a' b' then ((quE d e a b e' a' b' / nmI e' a', quA d a b a' b', quB d a b a' b'), true) else ((0, 0, 0), false)).2]) := by
          rintro k rfl
          cases quK d e a b e' a' b' <;> rfl
        exact hKK _ hK.symm
      generalize quR d e a b e' a' b' = R at *
      clear c cf c1 c2 x0 x1
      go_enter Try.func28, Try.ntmps28
      go_wp2_with (first | (go_at_call 42; refine (hw.out _).mono ?_; rintro e w' ⟨rfl, hB⟩; obtain ⟨hC, hF⟩ := bcell hB; have hS := hB.size; (try simp at hS); (try have hSl := Nat.lt_of_succ_le hS); (try have hS0 : w.heap.size < w'.heap.size := by omega); (try have hS1 : w.heap.size + 1 < w'.heap.size := by omega); (try have hS2 : w.heap.size + 1 + 1 < w'.heap.size := by omega); (try have hS3 : w.heap.size + 1 + 1 + 1 < w'.heap.size := by omega)) | (go_at_call 49; refine (hi.out _).mono ?_; rintro e w' ⟨rfl, hB⟩; obtain ⟨hC, hF⟩ := bcell hB; have hS := hB.size; (try simp at hS); (try have hSl := Nat.lt_of_succ_le hS); (try have hS0 : w.heap.size < w'.heap.size := by omega); (try have hS1 : w.heap.size + 1 < w'.heap.size := by omega); (try have hS2 : w.heap.size + 1 + 1 < w'.heap.size := by omega); (try have hS3 : w.heap.size + 1 + 1 + 1 < w'.heap.size := by omega)) | (go_at_call 56; refine (hq.out _).mono ?_; rintro e w' ⟨rfl, hB⟩; obtain ⟨hC, hF⟩ := bcell hB; have hS := hB.size; (try simp at hS); (try have hSl := Nat.lt_of_succ_le hS); (try have hS0 : w.heap.size < w'.heap.size := by omega); (try have hS1 : w.heap.size + 1 < w'.heap.size := by omega); (try have hS2 : w.heap.size + 1 + 1 < w'.heap.size := by omega); (try have hS3 : w.heap.size + 1 + 1 + 1 < w'.heap.size := by omega)))
      (refine bodyPost_ret (v := .tuple #[.agg #[.int .i64 R.1.1, .int .i64 R.1.2.1, .int .i64 R.1.2.2], .bool R.2]) ?_ rfl ⟨?_, ?_⟩; (focus (go_light; first | (simp [results, Try.results28, go_sem, *]; done) | (simp (disch := first | omega | (simp <;> omega) | (refine isSome_of ?_ ?_; (focus ((repeat (first | ((with_reducible refine (cell_alloc_old _ _ _ _ ?_).trans ?_); (focus (first | omega | (simp <;> omega)))) | ((with_reducible refine (bG (by assumption) ?_).trans ?_); (focus (first | omega | (simp <;> omega)))))); exact rfl)); simp [go_sem]) | fail) [results, Try.results28, go_sem, *]; done))); (focus (rfl)); repeat (first | with_reducible exact Below.refl _ _ | with_reducible assumption | ((with_reducible refine blA ?_ ?_); (focus (first | omega | (simp <;> omega)))) | (with_reducible refine blD ?_) | (with_reducible refine blN ?_) | ((with_reducible refine blS ?_ ?_); (focus (first | omega | (simp <;> omega)))) | ((with_reducible refine blT (by assumption) ?_ ?_); (focus (first | omega | (simp <;> omega))))))
    · have c2' : idB d e' a' b' = false := by simpa using c2
      have hR : quR d e a b e' a' b' = ((0, 0, 0), false) := by rw [quR, quG, c2', Bool.and_false]; rfl
      rw [hR]
      have hi : Hid (∀ w1, Calls Try.prog 49 #[.int .i64 d, .agg #[.int .i64 e', .int .i64 a', .int .i64 b']] w1 fun en w' => en = .returned (.bool false) ∧ Below w1.heap.size w1 w') := fun w1 => by rw [← c2']; exact isIdeal_any d e' a' b' w1 hd
      clear hR c cf c1 c2 c2'
      go_enter Try.func28, Try.ntmps28
      go_wp2_with fail
      refine (hw.out _).mono ?_
      rintro e1 w1 ⟨rfl, hB1⟩
      obtain ⟨hC1, hF1⟩ := bcell hB1
      have hS1 := hB1.size
      (try simp at hS1)
      (try have hS1_w0 : w.heap.size < w1.heap.size := by omega)
      (try have hS1_w1 : w.heap.size + 1 < w1.heap.size := by omega)
      (try have hS1_w2 : w.heap.size + 1 + 1 < w1.heap.size := by omega)
      (try have hS1_w3 : w.heap.size + 1 + 1 + 1 < w1.heap.size := by omega)
      (try have hS1_w4 : w.heap.size + 1 + 1 + 1 + 1 < w1.heap.size := by omega)
      (try have hL1_w0 : w.heap.size ≤ w1.heap.size := by omega)
      (try have hL1_w1 : w.heap.size + 1 ≤ w1.heap.size := by omega)
      (try have hL1_w2 : w.heap.size + 1 + 1 ≤ w1.heap.size := by omega)
      (try have hL1_w3 : w.heap.size + 1 + 1 + 1 ≤ w1.heap.size := by omega)
      (try have hL1_w : w.heap.size ≤ w1.heap.size + 1 := by omega)
      (try have hM1_1 : w.heap.size < w1.heap.size + 1 := by omega)
      (try have hM1_2 : w.heap.size < w1.heap.size + 1 + 1 := by omega)
      (try have hM1_3 : w.heap.size < w1.heap.size + 1 + 1 + 1 := by omega)
      go_wp2_with fail
      refine (hi.out _).mono ?_
      rintro e2 w2 ⟨rfl, hB2⟩
      obtain ⟨hC2, hF2⟩ := bcell hB2
      have hS2 := hB2.size
      (try simp at hS2)
      (try have hS2_w0 : w.heap.size < w2.heap.size := by omega)
      (try have hS2_w1 : w.heap.size + 1 < w2.heap.size := by omega)
      (try have hS2_w2 : w.heap.size + 1 + 1 < w2.heap.size := by omega)
      (try have hS2_w3 : w.heap.size + 1 + 1 + 1 < w2.heap.size := by omega)
      (try have hS2_w4 : w.heap.size + 1 + 1 + 1 + 1 < w2.heap.size := by omega)
      (try have hL2_w0 : w.heap.size ≤ w2.heap.size := by omega)
      (try have hL2_w1 : w.heap.size + 1 ≤ w2.heap.size := by omega)
      (try have hL2_w2 : w.heap.size + 1 + 1 ≤ w2.heap.size := by omega)
      (try have hL2_w3 : w.heap.size + 1 + 1 + 1 ≤ w2.heap.size := by omega)
      (try have hL2_w : w.heap.size ≤ w2.heap.size + 1 := by omega)
      (try have hM2_1 : w.heap.size < w2.heap.size + 1 := by omega)
      (try have hM2_2 : w.heap.size < w2.heap.size + 1 + 1 := by omega)
      (try have hM2_3 : w.heap.size < w2.heap.size + 1 + 1 + 1 := by omega)
      (try have hN2_1_00 : w1.heap.size < w2.heap.size := by omega)
      (try have hN2_1_01 : w1.heap.size < w2.heap.size + 1 := by omega)
      (try have hN2_1_02 : w1.heap.size < w2.heap.size + 1 + 1 := by omega)
      (try have hN2_1_10 : w1.heap.size + 1 < w2.heap.size := by omega)
      (try have hN2_1_11 : w1.heap.size + 1 < w2.heap.size + 1 := by omega)
      (try have hN2_1_12 : w1.heap.size + 1 < w2.heap.size + 1 + 1 := by omega)
      (try have hN2_1_20 : w1.heap.size + 1 + 1 < w2.heap.size := by omega)
      (try have hN2_1_21 : w1.heap.size + 1 + 1 < w2.heap.size + 1 := by omega)
      (try have hN2_1_22 : w1.heap.size + 1 + 1 < w2.heap.size + 1 + 1 := by omega)
      (try have hL2_1 : w1.heap.size ≤ w2.heap.size := by omega)
      (try have hS2_1 : w1.heap.size < w2.heap.size := by omega)
      (try have hS2_1' : w1.heap.size + 1 < w2.heap.size := by omega)
      go_wp2_with fail
      (refine bodyPost_ret (v := .tuple #[.agg #[.int .i64 0, .int .i64 0, .int .i64 0], .bool false]) ?_ rfl ⟨?_, ?_⟩; (focus (go_light; first | (simp [results, Try.results28, go_sem, *]; done) | (simp (disch := first | omega | (simp <;> omega) | (refine isSome_of ?_ ?_; (focus ((repeat (first | ((with_reducible refine (cell_alloc_old _ _ _ _ ?_).trans ?_); (focus (first | omega | (simp <;> omega)))) | ((with_reducible refine (bG (by assumption) ?_).trans ?_); (focus (first | omega | (simp <;> omega)))))); exact rfl)); simp [go_sem]) | fail) [results, Try.results28, go_sem, *]; done))); (focus (rfl)); repeat (first | with_reducible exact Below.refl _ _ | with_reducible assumption | ((with_reducible refine blA ?_ ?_); (focus (first | omega | (simp <;> omega)))) | (with_reducible refine blD ?_) | (with_reducible refine blN ?_) | ((with_reducible refine blS ?_ ?_); (focus (first | omega | (simp <;> omega)))) | ((with_reducible refine blT (by assumption) ?_ ?_); (focus (first | omega | (simp <;> omega))))))
  · have c' : (fnB d && idB d e a b) = false := by simpa using c
    have hR : quR d e a b e' a' b' = ((0, 0, 0), false) := by rw [quR, quG, c', Bool.false_and, Bool.false_and]; rfl
    rw [hR]
    have hw : Hid (∀ w1, Calls Try.prog 42 #[.int .i64 d, .agg #[.int .i64 e, .int .i64 a, .int .i64 b]] w1 fun en w' => en = .returned (.bool false) ∧ Below w1.heap.size w1 w') := fun w1 => by rw [← c']; exact isWhole_any d e a b w1 hd
    clear hR c c'
    go_enter Try.func28, Try.ntmps28
    go_wp2_with fail
    refine (hw.out _).mono ?_
    rintro e3 w3 ⟨rfl, hB3⟩
    obtain ⟨hC3, hF3⟩ := bcell hB3
    have hS3 := hB3.size
    (try simp at hS3)
    (try have hS3_w0 : w.heap.size < w3.heap.size := by omega)
    (try have hS3_w1 : w.heap.size + 1 < w3.heap.size := by omega)
    (try have hS3_w2 : w.heap.size + 1 + 1 < w3.heap.size := by omega)
    (try have hS3_w3 : w.heap.size + 1 + 1 + 1 < w3.heap.size := by omega)
    (try have hS3_w4 : w.heap.size + 1 + 1 + 1 + 1 < w3.heap.size := by omega)
    (try have hL3_w0 : w.heap.size ≤ w3.heap.size := by omega)
    (try have hL3_w1 : w.heap.size + 1 ≤ w3.heap.size := by omega)
    (try have hL3_w2 : w.heap.size + 1 + 1 ≤ w3.heap.size := by omega)
    (try have hL3_w3 : w.heap.size + 1 + 1 + 1 ≤ w3.heap.size := by omega)
    (try have hL3_w : w.heap.size ≤ w3.heap.size + 1 := by omega)
    (try have hM3_1 : w.heap.size < w3.heap.size + 1 := by omega)
    (try have hM3_2 : w.heap.size < w3.heap.size + 1 + 1 := by omega)
    (try have hM3_3 : w.heap.size < w3.heap.size + 1 + 1 + 1 := by omega)
    (try have hN3_1_00 : w1.heap.size < w3.heap.size := by omega)
    (try have hN3_1_01 : w1.heap.size < w3.heap.size + 1 := by omega)
    (try have hN3_1_02 : w1.heap.size < w3.heap.size + 1 + 1 := by omega)
    (try have hN3_1_10 : w1.heap.size + 1 < w3.heap.size := by omega)
    (try have hN3_1_11 : w1.heap.size + 1 < w3.heap.size + 1 := by omega)
    (try have hN3_1_12 : w1.heap.size + 1 < w3.heap.size + 1 + 1 := by omega)
    (try have hN3_1_20 : w1.heap.size + 1 + 1 < w3.heap.size := by omega)
    (try have hN3_1_21 : w1.heap.size + 1 + 1 < w3.heap.size + 1 := by omega)
    (try have hN3_1_22 : w1.heap.size + 1 + 1 < w3.heap.size + 1 + 1 := by omega)
    (try have hN3_2_00 : w2.heap.size < w3.heap.size := by omega)
    (try have hN3_2_01 : w2.heap.size < w3.heap.size + 1 := by omega)
    (try have hN3_2_02 : w2.heap.size < w3.heap.size + 1 + 1 := by omega)
    (try have hN3_2_10 : w2.heap.size + 1 < w3.heap.size := by omega)
    (try have hN3_2_11 : w2.heap.size + 1 < w3.heap.size + 1 := by omega)
    (try have hN3_2_12 : w2.heap.size + 1 < w3.heap.size + 1 + 1 := by omega)
    (try have hN3_2_20 : w2.heap.size + 1 + 1 < w3.heap.size := by omega)
    (try have hN3_2_21 : w2.heap.size + 1 + 1 < w3.heap.size + 1 := by omega)
    (try have hN3_2_22 : w2.heap.size + 1 + 1 < w3.heap.size + 1 + 1 := by omega)
    (try have hL3_1 : w1.heap.size ≤ w3.heap.size := by omega)
    (try have hL3_2 : w2.heap.size ≤ w3.heap.size := by omega)
    (try have hS3_1 : w1.heap.size < w3.heap.size := by omega)
    (try have hS3_1' : w1.heap.size + 1 < w3.heap.size := by omega)
    (try have hS3_2 : w2.heap.size < w3.heap.size := by omega)
    (try have hS3_2' : w2.heap.size + 1 < w3.heap.size := by omega)
    go_wp2_with fail
    (refine bodyPost_ret (v := .tuple #[.agg #[.int .i64 0, .int .i64 0, .int .i64 0], .bool false]) ?_ rfl ⟨?_, ?_⟩; (focus (go_light; first | (simp [results, Try.results28, go_sem, *]; done) | (simp (disch := first | omega | (simp <;> omega) | (refine isSome_of ?_ ?_; (focus ((repeat (first | ((with_reducible refine (cell_alloc_old _ _ _ _ ?_).trans ?_); (focus (first | omega | (simp <;> omega)))) | ((with_reducible refine (bG (by assumption) ?_).trans ?_); (focus (first | omega | (simp <;> omega)))))); exact rfl)); simp [go_sem]) | fail) [results, Try.results28, go_sem, *]; done))); (focus (rfl)); repeat (first | with_reducible exact Below.refl _ _ | with_reducible assumption | ((with_reducible refine blA ?_ ?_); (focus (first | omega | (simp <;> omega)))) | (with_reducible refine blD ?_) | (with_reducible refine blN ?_) | ((with_reducible refine blS ?_ ?_); (focus (first | omega | (simp <;> omega)))) | ((with_reducible refine blT (by assumption) ?_ ?_); (focus (first | omega | (simp <;> omega))))))
set_option maxRecDepth 100000 in
set_option maxHeartbeats 2000000 in
theorem specIdealQuotient_any (d e a b e' a' b' : Int) (w : World) (hd : I64 d) :
    Calls Try.prog 27 #[.int .i64 d, .agg #[.int .i64 e, .int .i64 a, .int .i64 b], .agg #[.int .i64 e', .int .i64 a', .int .i64 b']] w fun en w' => en = .returned (.tuple #[.agg #[.int .i64 ((quR d e a b e' a' b').1.1), .int .i64 ((quR d e a b e' a' b').1.2.1), .int .i64 ((quR d e a b e' a' b').1.2.2)], .bool (quR d e a b e' a' b').2]) ∧ Below w.heap.size w w' := by
  by_cases c : (fnB d && idB d e a b) = true
  · have cf : fnB d = true := by simp only [Bool.and_eq_true] at c; exact c.1
    have c1 : idB d e a b = true := by simp only [Bool.and_eq_true] at c; exact c.2
    have hw : Hid (∀ w1, Calls Try.prog 40 #[.int .i64 d, .agg #[.int .i64 e, .int .i64 a, .int .i64 b]] w1 fun en w' => en = .returned (.bool true) ∧ Below w1.heap.size w1 w') := fun w1 => by rw [← c]; exact piGood_any d e a b w1 hd
    by_cases c2 : idB d e' a' b' = true
    · have hi : Hid (∀ w1, Calls Try.prog 40 #[.int .i64 d, .agg #[.int .i64 e', .int .i64 a', .int .i64 b']] w1 fun en w' => en = .returned (.bool true) ∧ Below w1.heap.size w1 w') := fun w1 => by rw [← c2]; have := piGood_any d e' a' b' w1 hd; rwa [cf, Bool.true_and] at this
      obtain ⟨x0, x1⟩ := muE_bd c1 (idB_cj c2)
      by_cases cK : quE d e a b e' a' b' % nmI e' a' = 0
      · have hR : quR d e a b e' a' b' = ((iz (idB d (quE d e a b e' a' b' / nmI e' a') (quA d a b a' b') (quB d a b a' b')) (quE d e a b e' a' b' / nmI e' a'), iz (idB d (quE d e a b e' a' b' / nmI e' a') (quA d a b a' b') (quB d a b a' b')) (quA d a b a' b'), iz (idB d (quE d e a b e' a' b' / nmI e' a') (quA d a b a' b') (quB d a b a' b')) (quB d a b a' b')), idB d (quE d e a b e' a' b' / nmI e' a') (quA d a b a' b') (quB d a b a' b')) := by
          rw [quR, quG, quK, c, c2, decide_eq_true cK]; cases idB d (quE d e a b e' a' b' / nmI e' a') (quA d a b a' b') (quB d a b a' b') <;> rfl
        rw [hR]
        have hq : Hid (∀ w1, Calls Try.prog 54 #[.int .i64 d, .agg #[.int .i64 e, .int .i64 a, .int .i64 b], .agg #[.int .i64 e', .int .i64 a', .int .i64 b']] w1 fun en w' => en = .returned (.tuple #[.agg #[.int .i64 (quE d e a b e' a' b' / nmI e' a'), .int .i64 (quA d a b a' b'), .int .i64 (quB d a b a' b')], .bool true]) ∧ Below w1.heap.size w1 w') := fun w1 => by
          have hh := (specQuot_gen d e a b e' a' b' (quE d e a b e' a' b') (quA d a b a' b') (quB d a b a' b') w1 hd c1 c2 (fun w1 => idProduct_any d e a b e' a' (cjB a' b') w1 c1 (idB_cj c2)) x0 x1)
          rw [decide_eq_true cK] at hh
          exact hh
        generalize quE d e a b e' a' b' / nmI e' a' = X at *
        generalize quA d a b a' b' = Y at *
        generalize quB d a b a' b' = Z at *
        clear hR cK x0 x1 c cf c1 c2
        go_enter Try.func27, Try.ntmps27
        go_wp2_with fail
        refine (hw.out _).mono ?_
        rintro e1 w1 ⟨rfl, hB1⟩
        obtain ⟨hC1, hF1⟩ := bcell hB1
        have hS1 := hB1.size
        (try simp at hS1)
        (try have hS1_w0 : w.heap.size < w1.heap.size := by omega)
        (try have hS1_w1 : w.heap.size + 1 < w1.heap.size := by omega)
        (try have hS1_w2 : w.heap.size + 1 + 1 < w1.heap.size := by omega)
        (try have hS1_w3 : w.heap.size + 1 + 1 + 1 < w1.heap.size := by omega)
        (try have hS1_w4 : w.heap.size + 1 + 1 + 1 + 1 < w1.heap.size := by omega)
        (try have hL1_w0 : w.heap.size ≤ w1.heap.size := by omega)
        (try have hL1_w1 : w.heap.size + 1 ≤ w1.heap.size := by omega)
        (try have hL1_w2 : w.heap.size + 1 + 1 ≤ w1.heap.size := by omega)
        (try have hL1_w3 : w.heap.size + 1 + 1 + 1 ≤ w1.heap.size := by omega)
        (try have hL1_w : w.heap.size ≤ w1.heap.size + 1 := by omega)
        (try have hM1_1 : w.heap.size < w1.heap.size + 1 := by omega)
        (try have hM1_2 : w.heap.size < w1.heap.size + 1 + 1 := by omega)
        (try have hM1_3 : w.heap.size < w1.heap.size + 1 + 1 + 1 := by omega)
        go_wp2_with fail
        refine (hi.out _).mono ?_
        rintro e2 w2 ⟨rfl, hB2⟩
        obtain ⟨hC2, hF2⟩ := bcell hB2
        have hS2 := hB2.size
        (try simp at hS2)
        (try have hS2_w0 : w.heap.size < w2.heap.size := by omega)
        (try have hS2_w1 : w.heap.size + 1 < w2.heap.size := by omega)
        (try have hS2_w2 : w.heap.size + 1 + 1 < w2.heap.size := by omega)
        (try have hS2_w3 : w.heap.size + 1 + 1 + 1 < w2.heap.size := by omega)
        (try have hS2_w4 : w.heap.size + 1 + 1 + 1 + 1 < w2.heap.size := by omega)
        (try have hL2_w0 : w.heap.size ≤ w2.heap.size := by omega)
        (try have hL2_w1 : w.heap.size + 1 ≤ w2.heap.size := by omega)
        (try have hL2_w2 : w.heap.size + 1 + 1 ≤ w2.heap.size := by omega)
        (try have hL2_w3 : w.heap.size + 1 + 1 + 1 ≤ w2.heap.size := by omega)
        (try have hL2_w : w.heap.size ≤ w2.heap.size + 1 := by omega)
        (try have hM2_1 : w.heap.size < w2.heap.size + 1 := by omega)
        (try have hM2_2 : w.heap.size < w2.heap.size + 1 + 1 := by omega)
        (try have hM2_3 : w.heap.size < w2.heap.size + 1 + 1 + 1 := by omega)
        (try have hN2_1_00 : w1.heap.size < w2.heap.size := by omega)
        (try have hN2_1_01 : w1.heap.size < w2.heap.size + 1 := by omega)
        (try have hN2_1_02 : w1.heap.size < w2.heap.size + 1 + 1 := by omega)
        (try have hN2_1_10 : w1.heap.size + 1 < w2.heap.size := by omega)
        (try have hN2_1_11 : w1.heap.size + 1 < w2.heap.size + 1 := by omega)
        (try have hN2_1_12 : w1.heap.size + 1 < w2.heap.size + 1 + 1 := by omega)
        (try have hN2_1_20 : w1.heap.size + 1 + 1 < w2.heap.size := by omega)
        (try have hN2_1_21 : w1.heap.size + 1 + 1 < w2.heap.size + 1 := by omega)
        (try have hN2_1_22 : w1.heap.size + 1 + 1 < w2.heap.size + 1 + 1 := by omega)
        (try have hL2_1 : w1.heap.size ≤ w2.heap.size := by omega)
        (try have hS2_1 : w1.heap.size < w2.heap.size := by omega)
        (try have hS2_1' : w1.heap.size + 1 < w2.heap.size := by omega)
        go_wp2_with fail
        refine (hq.out _).mono ?_
        rintro e3 w3 ⟨rfl, hB3⟩
        obtain ⟨hC3, hF3⟩ := bcell hB3
        have hS3 := hB3.size
        (try simp at hS3)
        (try have hS3_w0 : w.heap.size < w3.heap.size := by omega)
        (try have hS3_w1 : w.heap.size + 1 < w3.heap.size := by omega)
        (try have hS3_w2 : w.heap.size + 1 + 1 < w3.heap.size := by omega)
        (try have hS3_w3 : w.heap.size + 1 + 1 + 1 < w3.heap.size := by omega)
        (try have hS3_w4 : w.heap.size + 1 + 1 + 1 + 1 < w3.heap.size := by omega)
        (try have hL3_w0 : w.heap.size ≤ w3.heap.size := by omega)
        (try have hL3_w1 : w.heap.size + 1 ≤ w3.heap.size := by omega)
        (try have hL3_w2 : w.heap.size + 1 + 1 ≤ w3.heap.size := by omega)
        (try have hL3_w3 : w.heap.size + 1 + 1 + 1 ≤ w3.heap.size := by omega)
        (try have hL3_w : w.heap.size ≤ w3.heap.size + 1 := by omega)
        (try have hM3_1 : w.heap.size < w3.heap.size + 1 := by omega)
        (try have hM3_2 : w.heap.size < w3.heap.size + 1 + 1 := by omega)
        (try have hM3_3 : w.heap.size < w3.heap.size + 1 + 1 + 1 := by omega)
        (try have hN3_1_00 : w1.heap.size < w3.heap.size := by omega)
        (try have hN3_1_01 : w1.heap.size < w3.heap.size + 1 := by omega)
        (try have hN3_1_02 : w1.heap.size < w3.heap.size + 1 + 1 := by omega)
        (try have hN3_1_10 : w1.heap.size + 1 < w3.heap.size := by omega)
        (try have hN3_1_11 : w1.heap.size + 1 < w3.heap.size + 1 := by omega)
        (try have hN3_1_12 : w1.heap.size + 1 < w3.heap.size + 1 + 1 := by omega)
        (try have hN3_1_20 : w1.heap.size + 1 + 1 < w3.heap.size := by omega)
        (try have hN3_1_21 : w1.heap.size + 1 + 1 < w3.heap.size + 1 := by omega)
        (try have hN3_1_22 : w1.heap.size + 1 + 1 < w3.heap.size + 1 + 1 := by omega)
        (try have hN3_2_00 : w2.heap.size < w3.heap.size := by omega)
        (try have hN3_2_01 : w2.heap.size < w3.heap.size + 1 := by omega)
        (try have hN3_2_02 : w2.heap.size < w3.heap.size + 1 + 1 := by omega)
        (try have hN3_2_10 : w2.heap.size + 1 < w3.heap.size := by omega)
        (try have hN3_2_11 : w2.heap.size + 1 < w3.heap.size + 1 := by omega)
        (try have hN3_2_12 : w2.heap.size + 1 < w3.heap.size + 1 + 1 := by omega)
        (try have hN3_2_20 : w2.heap.size + 1 + 1 < w3.heap.size := by omega)
        (try have hN3_2_21 : w2.heap.size + 1 + 1 < w3.heap.size + 1 := by omega)
        (try have hN3_2_22 : w2.heap.size + 1 + 1 < w3.heap.size + 1 + 1 := by omega)
        (try have hL3_1 : w1.heap.size ≤ w3.heap.size := by omega)
        (try have hL3_2 : w2.heap.size ≤ w3.heap.size := by omega)
        (try have hS3_1 : w1.heap.size < w3.heap.size := by omega)
        (try have hS3_1' : w1.heap.size + 1 < w3.heap.size := by omega)
        (try have hS3_2 : w2.heap.size < w3.heap.size := by omega)
        (try have hS3_2' : w2.heap.size + 1 < w3.heap.size := by omega)
        go_wp2_with fail
        refine (idIf_any _ _ _ _ _ hd).mono ?_
        rintro e4 w4 ⟨rfl, hB4⟩
        obtain ⟨hC4, hF4⟩ := bcell hB4
        have hS4 := hB4.size
        (try simp at hS4)
        (try have hS4_w0 : w.heap.size < w4.heap.size := by omega)
        (try have hS4_w1 : w.heap.size + 1 < w4.heap.size := by omega)
        (try have hS4_w2 : w.heap.size + 1 + 1 < w4.heap.size := by omega)
        (try have hS4_w3 : w.heap.size + 1 + 1 + 1 < w4.heap.size := by omega)
        (try have hS4_w4 : w.heap.size + 1 + 1 + 1 + 1 < w4.heap.size := by omega)
        (try have hL4_w0 : w.heap.size ≤ w4.heap.size := by omega)
        (try have hL4_w1 : w.heap.size + 1 ≤ w4.heap.size := by omega)
        (try have hL4_w2 : w.heap.size + 1 + 1 ≤ w4.heap.size := by omega)
        (try have hL4_w3 : w.heap.size + 1 + 1 + 1 ≤ w4.heap.size := by omega)
        (try have hL4_w : w.heap.size ≤ w4.heap.size + 1 := by omega)
        (try have hM4_1 : w.heap.size < w4.heap.size + 1 := by omega)
        (try have hM4_2 : w.heap.size < w4.heap.size + 1 + 1 := by omega)
        (try have hM4_3 : w.heap.size < w4.heap.size + 1 + 1 + 1 := by omega)
        (try have hN4_1_00 : w1.heap.size < w4.heap.size := by omega)
        (try have hN4_1_01 : w1.heap.size < w4.heap.size + 1 := by omega)
        (try have hN4_1_02 : w1.heap.size < w4.heap.size + 1 + 1 := by omega)
        (try have hN4_1_10 : w1.heap.size + 1 < w4.heap.size := by omega)
        (try have hN4_1_11 : w1.heap.size + 1 < w4.heap.size + 1 := by omega)
        (try have hN4_1_12 : w1.heap.size + 1 < w4.heap.size + 1 + 1 := by omega)
        (try have hN4_1_20 : w1.heap.size + 1 + 1 < w4.heap.size := by omega)
        (try have hN4_1_21 : w1.heap.size + 1 + 1 < w4.heap.size + 1 := by omega)
        (try have hN4_1_22 : w1.heap.size + 1 + 1 < w4.heap.size + 1 + 1 := by omega)
        (try have hN4_2_00 : w2.heap.size < w4.heap.size := by omega)
        (try have hN4_2_01 : w2.heap.size < w4.heap.size + 1 := by omega)
        (try have hN4_2_02 : w2.heap.size < w4.heap.size + 1 + 1 := by omega)
        (try have hN4_2_10 : w2.heap.size + 1 < w4.heap.size := by omega)
        (try have hN4_2_11 : w2.heap.size + 1 < w4.heap.size + 1 := by omega)
        (try have hN4_2_12 : w2.heap.size + 1 < w4.heap.size + 1 + 1 := by omega)
        (try have hN4_2_20 : w2.heap.size + 1 + 1 < w4.heap.size := by omega)
        (try have hN4_2_21 : w2.heap.size + 1 + 1 < w4.heap.size + 1 := by omega)
        (try have hN4_2_22 : w2.heap.size + 1 + 1 < w4.heap.size + 1 + 1 := by omega)
        (try have hN4_3_00 : w3.heap.size < w4.heap.size := by omega)
        (try have hN4_3_01 : w3.heap.size < w4.heap.size + 1 := by omega)
        (try have hN4_3_02 : w3.heap.size < w4.heap.size + 1 + 1 := by omega)
        (try have hN4_3_10 : w3.heap.size + 1 < w4.heap.size := by omega)
        (try have hN4_3_11 : w3.heap.size + 1 < w4.heap.size + 1 := by omega)
        (try have hN4_3_12 : w3.heap.size + 1 < w4.heap.size + 1 + 1 := by omega)
        (try have hN4_3_20 : w3.heap.size + 1 + 1 < w4.heap.size := by omega)
        (try have hN4_3_21 : w3.heap.size + 1 + 1 < w4.heap.size + 1 := by omega)
        (try have hN4_3_22 : w3.heap.size + 1 + 1 < w4.heap.size + 1 + 1 := by omega)
        (try have hL4_1 : w1.heap.size ≤ w4.heap.size := by omega)
        (try have hL4_2 : w2.heap.size ≤ w4.heap.size := by omega)
        (try have hL4_3 : w3.heap.size ≤ w4.heap.size := by omega)
        (try have hS4_1 : w1.heap.size < w4.heap.size := by omega)
        (try have hS4_1' : w1.heap.size + 1 < w4.heap.size := by omega)
        (try have hS4_2 : w2.heap.size < w4.heap.size := by omega)
        (try have hS4_2' : w2.heap.size + 1 < w4.heap.size := by omega)
        (try have hS4_3 : w3.heap.size < w4.heap.size := by omega)
        (try have hS4_3' : w3.heap.size + 1 < w4.heap.size := by omega)
        go_wp2_with fail
        (refine bodyPost_ret (v := .tuple #[.agg #[.int .i64 (iz (idB d X Y Z) X), .int .i64 (iz (idB d X Y Z) Y), .int .i64 (iz (idB d X Y Z) Z)], .bool (idB d X Y Z)]) ?_ rfl ⟨?_, ?_⟩; (focus (go_light; first | (simp [results, Try.results27, go_sem, *]; done) | (simp (disch := first | omega | (simp <;> omega) | (refine isSome_of ?_ ?_; (focus ((repeat (first | ((with_reducible refine (cell_alloc_old _ _ _ _ ?_).trans ?_); (focus (first | omega | (simp <;> omega)))) | ((with_reducible refine (bG (by assumption) ?_).trans ?_); (focus (first | omega | (simp <;> omega)))))); exact rfl)); simp [go_sem]) | fail) [results, Try.results27, go_sem, *]; done))); (focus (rfl)); repeat (first | with_reducible exact Below.refl _ _ | with_reducible assumption | ((with_reducible refine blA ?_ ?_); (focus (first | omega | (simp <;> omega)))) | (with_reducible refine blD ?_) | (with_reducible refine blN ?_) | ((with_reducible refine blS ?_ ?_); (focus (first | omega | (simp <;> omega)))) | ((with_reducible refine blT (by assumption) ?_ ?_); (focus (first | omega | (simp <;> omega))))))
      · have hR : quR d e a b e' a' b' = ((0, 0, 0), false) := by rw [quR, quG, quK, c, c2, decide_eq_false cK]; rfl
        rw [hR]
        have hq : Hid (∀ w1, Calls Try.prog 54 #[.int .i64 d, .agg #[.int .i64 e, .int .i64 a, .int .i64 b], .agg #[.int .i64 e', .int .i64 a', .int .i64 b']] w1 fun en w' => en = .returned (.tuple #[.agg #[.int .i64 0, .int .i64 0, .int .i64 0], .bool false]) ∧ Below w1.heap.size w1 w') := fun w1 => by
          have hh := (specQuot_gen d e a b e' a' b' (quE d e a b e' a' b') (quA d a b a' b') (quB d a b a' b') w1 hd c1 c2 (fun w1 => idProduct_any d e a b e' a' (cjB a' b') w1 c1 (idB_cj c2)) x0 x1)
          rw [decide_eq_false cK] at hh
          exact hh
        clear hR cK x0 x1 c cf c1 c2
        go_enter Try.func27, Try.ntmps27
        go_wp2_with fail
        refine (hw.out _).mono ?_
        rintro e5 w5 ⟨rfl, hB5⟩
        obtain ⟨hC5, hF5⟩ := bcell hB5
        have hS5 := hB5.size
        (try simp at hS5)
        (try have hS5_w0 : w.heap.size < w5.heap.size := by omega)
        (try have hS5_w1 : w.heap.size + 1 < w5.heap.size := by omega)
        (try have hS5_w2 : w.heap.size + 1 + 1 < w5.heap.size := by omega)
        (try have hS5_w3 : w.heap.size + 1 + 1 + 1 < w5.heap.size := by omega)
        (try have hS5_w4 : w.heap.size + 1 + 1 + 1 + 1 < w5.heap.size := by omega)
        (try have hL5_w0 : w.heap.size ≤ w5.heap.size := by omega)
        (try have hL5_w1 : w.heap.size + 1 ≤ w5.heap.size := by omega)
        (try have hL5_w2 : w.heap.size + 1 + 1 ≤ w5.heap.size := by omega)
        (try have hL5_w3 : w.heap.size + 1 + 1 + 1 ≤ w5.heap.size := by omega)
        (try have hL5_w : w.heap.size ≤ w5.heap.size + 1 := by omega)
        (try have hM5_1 : w.heap.size < w5.heap.size + 1 := by omega)
        (try have hM5_2 : w.heap.size < w5.heap.size + 1 + 1 := by omega)
        (try have hM5_3 : w.heap.size < w5.heap.size + 1 + 1 + 1 := by omega)
        (try have hN5_2_00 : w2.heap.size < w5.heap.size := by omega)
        (try have hN5_2_01 : w2.heap.size < w5.heap.size + 1 := by omega)
        (try have hN5_2_02 : w2.heap.size < w5.heap.size + 1 + 1 := by omega)
        (try have hN5_2_10 : w2.heap.size + 1 < w5.heap.size := by omega)
        (try have hN5_2_11 : w2.heap.size + 1 < w5.heap.size + 1 := by omega)
        (try have hN5_2_12 : w2.heap.size + 1 < w5.heap.size + 1 + 1 := by omega)
        (try have hN5_2_20 : w2.heap.size + 1 + 1 < w5.heap.size := by omega)
        (try have hN5_2_21 : w2.heap.size + 1 + 1 < w5.heap.size + 1 := by omega)
        (try have hN5_2_22 : w2.heap.size + 1 + 1 < w5.heap.size + 1 + 1 := by omega)
        (try have hN5_3_00 : w3.heap.size < w5.heap.size := by omega)
        (try have hN5_3_01 : w3.heap.size < w5.heap.size + 1 := by omega)
        (try have hN5_3_02 : w3.heap.size < w5.heap.size + 1 + 1 := by omega)
        (try have hN5_3_10 : w3.heap.size + 1 < w5.heap.size := by omega)
        (try have hN5_3_11 : w3.heap.size + 1 < w5.heap.size + 1 := by omega)
        (try have hN5_3_12 : w3.heap.size + 1 < w5.heap.size + 1 + 1 := by omega)
        (try have hN5_3_20 : w3.heap.size + 1 + 1 < w5.heap.size := by omega)
        (try have hN5_3_21 : w3.heap.size + 1 + 1 < w5.heap.size + 1 := by omega)
        (try have hN5_3_22 : w3.heap.size + 1 + 1 < w5.heap.size + 1 + 1 := by omega)
        (try have hN5_4_00 : w4.heap.size < w5.heap.size := by omega)
        (try have hN5_4_01 : w4.heap.size < w5.heap.size + 1 := by omega)
        (try have hN5_4_02 : w4.heap.size < w5.heap.size + 1 + 1 := by omega)
        (try have hN5_4_10 : w4.heap.size + 1 < w5.heap.size := by omega)
        (try have hN5_4_11 : w4.heap.size + 1 < w5.heap.size + 1 := by omega)
        (try have hN5_4_12 : w4.heap.size + 1 < w5.heap.size + 1 + 1 := by omega)
        (try have hN5_4_20 : w4.heap.size + 1 + 1 < w5.heap.size := by omega)
        (try have hN5_4_21 : w4.heap.size + 1 + 1 < w5.heap.size + 1 := by omega)
        (try have hN5_4_22 : w4.heap.size + 1 + 1 < w5.heap.size + 1 + 1 := by omega)
        (try have hL5_1 : w1.heap.size ≤ w5.heap.size := by omega)
        (try have hL5_2 : w2.heap.size ≤ w5.heap.size := by omega)
        (try have hL5_3 : w3.heap.size ≤ w5.heap.size := by omega)
        (try have hL5_4 : w4.heap.size ≤ w5.heap.size := by omega)
        (try have hS5_1 : w1.heap.size < w5.heap.size := by omega)
        (try have hS5_1' : w1.heap.size + 1 < w5.heap.size := by omega)
        (try have hS5_2 : w2.heap.size < w5.heap.size := by omega)
        (try have hS5_2' : w2.heap.size + 1 < w5.heap.size := by omega)
        (try have hS5_3 : w3.heap.size < w5.heap.size := by omega)
        (try have hS5_3' : w3.heap.size + 1 < w5.heap.size := by omega)
        (try have hS5_4 : w4.heap.size < w5.heap.size := by omega)
        (try have hS5_4' : w4.heap.size + 1 < w5.heap.size := by omega)
        go_wp2_with fail
        refine (hi.out _).mono ?_
        rintro e6 w6 ⟨rfl, hB6⟩
        obtain ⟨hC6, hF6⟩ := bcell hB6
        have hS6 := hB6.size
        (try simp at hS6)
        (try have hS6_w0 : w.heap.size < w6.heap.size := by omega)
        (try have hS6_w1 : w.heap.size + 1 < w6.heap.size := by omega)
        (try have hS6_w2 : w.heap.size + 1 + 1 < w6.heap.size := by omega)
        (try have hS6_w3 : w.heap.size + 1 + 1 + 1 < w6.heap.size := by omega)
        (try have hS6_w4 : w.heap.size + 1 + 1 + 1 + 1 < w6.heap.size := by omega)
        (try have hL6_w0 : w.heap.size ≤ w6.heap.size := by omega)
        (try have hL6_w1 : w.heap.size + 1 ≤ w6.heap.size := by omega)
        (try have hL6_w2 : w.heap.size + 1 + 1 ≤ w6.heap.size := by omega)
        (try have hL6_w3 : w.heap.size + 1 + 1 + 1 ≤ w6.heap.size := by omega)
        (try have hL6_w : w.heap.size ≤ w6.heap.size + 1 := by omega)
        (try have hM6_1 : w.heap.size < w6.heap.size + 1 := by omega)
        (try have hM6_2 : w.heap.size < w6.heap.size + 1 + 1 := by omega)
        (try have hM6_3 : w.heap.size < w6.heap.size + 1 + 1 + 1 := by omega)
        (try have hN6_3_00 : w3.heap.size < w6.heap.size := by omega)
        (try have hN6_3_01 : w3.heap.size < w6.heap.size + 1 := by omega)
        (try have hN6_3_02 : w3.heap.size < w6.heap.size + 1 + 1 := by omega)
        (try have hN6_3_10 : w3.heap.size + 1 < w6.heap.size := by omega)
        (try have hN6_3_11 : w3.heap.size + 1 < w6.heap.size + 1 := by omega)
        (try have hN6_3_12 : w3.heap.size + 1 < w6.heap.size + 1 + 1 := by omega)
        (try have hN6_3_20 : w3.heap.size + 1 + 1 < w6.heap.size := by omega)
        (try have hN6_3_21 : w3.heap.size + 1 + 1 < w6.heap.size + 1 := by omega)
        (try have hN6_3_22 : w3.heap.size + 1 + 1 < w6.heap.size + 1 + 1 := by omega)
        (try have hN6_4_00 : w4.heap.size < w6.heap.size := by omega)
        (try have hN6_4_01 : w4.heap.size < w6.heap.size + 1 := by omega)
        (try have hN6_4_02 : w4.heap.size < w6.heap.size + 1 + 1 := by omega)
        (try have hN6_4_10 : w4.heap.size + 1 < w6.heap.size := by omega)
        (try have hN6_4_11 : w4.heap.size + 1 < w6.heap.size + 1 := by omega)
        (try have hN6_4_12 : w4.heap.size + 1 < w6.heap.size + 1 + 1 := by omega)
        (try have hN6_4_20 : w4.heap.size + 1 + 1 < w6.heap.size := by omega)
        (try have hN6_4_21 : w4.heap.size + 1 + 1 < w6.heap.size + 1 := by omega)
        (try have hN6_4_22 : w4.heap.size + 1 + 1 < w6.heap.size + 1 + 1 := by omega)
        (try have hN6_5_00 : w5.heap.size < w6.heap.size := by omega)
        (try have hN6_5_01 : w5.heap.size < w6.heap.size + 1 := by omega)
        (try have hN6_5_02 : w5.heap.size < w6.heap.size + 1 + 1 := by omega)
        (try have hN6_5_10 : w5.heap.size + 1 < w6.heap.size := by omega)
        (try have hN6_5_11 : w5.heap.size + 1 < w6.heap.size + 1 := by omega)
        (try have hN6_5_12 : w5.heap.size + 1 < w6.heap.size + 1 + 1 := by omega)
        (try have hN6_5_20 : w5.heap.size + 1 + 1 < w6.heap.size := by omega)
        (try have hN6_5_21 : w5.heap.size + 1 + 1 < w6.heap.size + 1 := by omega)
        (try have hN6_5_22 : w5.heap.size + 1 + 1 < w6.heap.size + 1 + 1 := by omega)
        (try have hL6_1 : w1.heap.size ≤ w6.heap.size := by omega)
        (try have hL6_2 : w2.heap.size ≤ w6.heap.size := by omega)
        (try have hL6_3 : w3.heap.size ≤ w6.heap.size := by omega)
        (try have hL6_4 : w4.heap.size ≤ w6.heap.size := by omega)
        (try have hL6_5 : w5.heap.size ≤ w6.heap.size := by omega)
        (try have hS6_1 : w1.heap.size < w6.heap.size := by omega)
        (try have hS6_1' : w1.heap.size + 1 < w6.heap.size := by omega)
        (try have hS6_2 : w2.heap.size < w6.heap.size := by omega)
        (try have hS6_2' : w2.heap.size + 1 < w6.heap.size := by omega)
        (try have hS6_3 : w3.heap.size < w6.heap.size := by omega)
        (try have hS6_3' : w3.heap.size + 1 < w6.heap.size := by omega)
        (try have hS6_4 : w4.heap.size < w6.heap.size := by omega)
        (try have hS6_4' : w4.heap.size + 1 < w6.heap.size := by omega)
        (try have hS6_5 : w5.heap.size < w6.heap.size := by omega)
        (try have hS6_5' : w5.heap.size + 1 < w6.heap.size := by omega)
        go_wp2_with fail
        refine (hq.out _).mono ?_
        rintro e7 w7 ⟨rfl, hB7⟩
        obtain ⟨hC7, hF7⟩ := bcell hB7
        have hS7 := hB7.size
        (try simp at hS7)
        (try have hS7_w0 : w.heap.size < w7.heap.size := by omega)
        (try have hS7_w1 : w.heap.size + 1 < w7.heap.size := by omega)
        (try have hS7_w2 : w.heap.size + 1 + 1 < w7.heap.size := by omega)
        (try have hS7_w3 : w.heap.size + 1 + 1 + 1 < w7.heap.size := by omega)
        (try have hS7_w4 : w.heap.size + 1 + 1 + 1 + 1 < w7.heap.size := by omega)
        (try have hL7_w0 : w.heap.size ≤ w7.heap.size := by omega)
        (try have hL7_w1 : w.heap.size + 1 ≤ w7.heap.size := by omega)
        (try have hL7_w2 : w.heap.size + 1 + 1 ≤ w7.heap.size := by omega)
        (try have hL7_w3 : w.heap.size + 1 + 1 + 1 ≤ w7.heap.size := by omega)
        (try have hL7_w : w.heap.size ≤ w7.heap.size + 1 := by omega)
        (try have hM7_1 : w.heap.size < w7.heap.size + 1 := by omega)
        (try have hM7_2 : w.heap.size < w7.heap.size + 1 + 1 := by omega)
        (try have hM7_3 : w.heap.size < w7.heap.size + 1 + 1 + 1 := by omega)
        (try have hN7_4_00 : w4.heap.size < w7.heap.size := by omega)
        (try have hN7_4_01 : w4.heap.size < w7.heap.size + 1 := by omega)
        (try have hN7_4_02 : w4.heap.size < w7.heap.size + 1 + 1 := by omega)
        (try have hN7_4_10 : w4.heap.size + 1 < w7.heap.size := by omega)
        (try have hN7_4_11 : w4.heap.size + 1 < w7.heap.size + 1 := by omega)
        (try have hN7_4_12 : w4.heap.size + 1 < w7.heap.size + 1 + 1 := by omega)
        (try have hN7_4_20 : w4.heap.size + 1 + 1 < w7.heap.size := by omega)
        (try have hN7_4_21 : w4.heap.size + 1 + 1 < w7.heap.size + 1 := by omega)
        (try have hN7_4_22 : w4.heap.size + 1 + 1 < w7.heap.size + 1 + 1 := by omega)
        (try have hN7_5_00 : w5.heap.size < w7.heap.size := by omega)
        (try have hN7_5_01 : w5.heap.size < w7.heap.size + 1 := by omega)
        (try have hN7_5_02 : w5.heap.size < w7.heap.size + 1 + 1 := by omega)
        (try have hN7_5_10 : w5.heap.size + 1 < w7.heap.size := by omega)
        (try have hN7_5_11 : w5.heap.size + 1 < w7.heap.size + 1 := by omega)
        (try have hN7_5_12 : w5.heap.size + 1 < w7.heap.size + 1 + 1 := by omega)
        (try have hN7_5_20 : w5.heap.size + 1 + 1 < w7.heap.size := by omega)
        (try have hN7_5_21 : w5.heap.size + 1 + 1 < w7.heap.size + 1 := by omega)
        (try have hN7_5_22 : w5.heap.size + 1 + 1 < w7.heap.size + 1 + 1 := by omega)
        (try have hN7_6_00 : w6.heap.size < w7.heap.size := by omega)
        (try have hN7_6_01 : w6.heap.size < w7.heap.size + 1 := by omega)
        (try have hN7_6_02 : w6.heap.size < w7.heap.size + 1 + 1 := by omega)
        (try have hN7_6_10 : w6.heap.size + 1 < w7.heap.size := by omega)
        (try have hN7_6_11 : w6.heap.size + 1 < w7.heap.size + 1 := by omega)
        (try have hN7_6_12 : w6.heap.size + 1 < w7.heap.size + 1 + 1 := by omega)
        (try have hN7_6_20 : w6.heap.size + 1 + 1 < w7.heap.size := by omega)
        (try have hN7_6_21 : w6.heap.size + 1 + 1 < w7.heap.size + 1 := by omega)
        (try have hN7_6_22 : w6.heap.size + 1 + 1 < w7.heap.size + 1 + 1 := by omega)
        (try have hL7_1 : w1.heap.size ≤ w7.heap.size := by omega)
        (try have hL7_2 : w2.heap.size ≤ w7.heap.size := by omega)
        (try have hL7_3 : w3.heap.size ≤ w7.heap.size := by omega)
        (try have hL7_4 : w4.heap.size ≤ w7.heap.size := by omega)
        (try have hL7_5 : w5.heap.size ≤ w7.heap.size := by omega)
        (try have hL7_6 : w6.heap.size ≤ w7.heap.size := by omega)
        (try have hS7_1 : w1.heap.size < w7.heap.size := by omega)
        (try have hS7_1' : w1.heap.size + 1 < w7.heap.size := by omega)
        (try have hS7_2 : w2.heap.size < w7.heap.size := by omega)
        (try have hS7_2' : w2.heap.size + 1 < w7.heap.size := by omega)
        (try have hS7_3 : w3.heap.size < w7.heap.size := by omega)
        (try have hS7_3' : w3.heap.size + 1 < w7.heap.size := by omega)
        (try have hS7_4 : w4.heap.size < w7.heap.size := by omega)
        (try have hS7_4' : w4.heap.size + 1 < w7.heap.size := by omega)
        (try have hS7_5 : w5.heap.size < w7.heap.size := by omega)
        (try have hS7_5' : w5.heap.size + 1 < w7.heap.size := by omega)
        (try have hS7_6 : w6.heap.size < w7.heap.size := by omega)
        (try have hS7_6' : w6.heap.size + 1 < w7.heap.size := by omega)
        go_wp2_with fail
        (refine bodyPost_ret (v := .tuple #[.agg #[.int .i64 0, .int .i64 0, .int .i64 0], .bool false]) ?_ rfl ⟨?_, ?_⟩; (focus (go_light; first | (simp [results, Try.results27, go_sem, *]; done) | (simp (disch := first | omega | (simp <;> omega) | (refine isSome_of ?_ ?_; (focus ((repeat (first | ((with_reducible refine (cell_alloc_old _ _ _ _ ?_).trans ?_); (focus (first | omega | (simp <;> omega)))) | ((with_reducible refine (bG (by assumption) ?_).trans ?_); (focus (first | omega | (simp <;> omega)))))); exact rfl)); simp [go_sem]) | fail) [results, Try.results27, go_sem, *]; done))); (focus (rfl)); repeat (first | with_reducible exact Below.refl _ _ | with_reducible assumption | ((with_reducible refine blA ?_ ?_); (focus (first | omega | (simp <;> omega)))) | (with_reducible refine blD ?_) | (with_reducible refine blN ?_) | ((with_reducible refine blS ?_ ?_); (focus (first | omega | (simp <;> omega)))) | ((with_reducible refine blT (by assumption) ?_ ?_); (focus (first | omega | (simp <;> omega))))))
    · have c2' : idB d e' a' b' = false := by simpa using c2
      have hR : quR d e a b e' a' b' = ((0, 0, 0), false) := by rw [quR, quG, c2', Bool.and_false]; rfl
      rw [hR]
      have hi : Hid (∀ w1, Calls Try.prog 40 #[.int .i64 d, .agg #[.int .i64 e', .int .i64 a', .int .i64 b']] w1 fun en w' => en = .returned (.bool false) ∧ Below w1.heap.size w1 w') := fun w1 => by rw [← c2']; have := piGood_any d e' a' b' w1 hd; rwa [cf, Bool.true_and] at this
      clear hR c cf c1 c2 c2'
      go_enter Try.func27, Try.ntmps27
      go_wp2_with fail
      refine (hw.out _).mono ?_
      rintro e8 w8 ⟨rfl, hB8⟩
      obtain ⟨hC8, hF8⟩ := bcell hB8
      have hS8 := hB8.size
      (try simp at hS8)
      (try have hS8_w0 : w.heap.size < w8.heap.size := by omega)
      (try have hS8_w1 : w.heap.size + 1 < w8.heap.size := by omega)
      (try have hS8_w2 : w.heap.size + 1 + 1 < w8.heap.size := by omega)
      (try have hS8_w3 : w.heap.size + 1 + 1 + 1 < w8.heap.size := by omega)
      (try have hS8_w4 : w.heap.size + 1 + 1 + 1 + 1 < w8.heap.size := by omega)
      (try have hL8_w0 : w.heap.size ≤ w8.heap.size := by omega)
      (try have hL8_w1 : w.heap.size + 1 ≤ w8.heap.size := by omega)
      (try have hL8_w2 : w.heap.size + 1 + 1 ≤ w8.heap.size := by omega)
      (try have hL8_w3 : w.heap.size + 1 + 1 + 1 ≤ w8.heap.size := by omega)
      (try have hL8_w : w.heap.size ≤ w8.heap.size + 1 := by omega)
      (try have hM8_1 : w.heap.size < w8.heap.size + 1 := by omega)
      (try have hM8_2 : w.heap.size < w8.heap.size + 1 + 1 := by omega)
      (try have hM8_3 : w.heap.size < w8.heap.size + 1 + 1 + 1 := by omega)
      (try have hN8_5_00 : w5.heap.size < w8.heap.size := by omega)
      (try have hN8_5_01 : w5.heap.size < w8.heap.size + 1 := by omega)
      (try have hN8_5_02 : w5.heap.size < w8.heap.size + 1 + 1 := by omega)
      (try have hN8_5_10 : w5.heap.size + 1 < w8.heap.size := by omega)
      (try have hN8_5_11 : w5.heap.size + 1 < w8.heap.size + 1 := by omega)
      (try have hN8_5_12 : w5.heap.size + 1 < w8.heap.size + 1 + 1 := by omega)
      (try have hN8_5_20 : w5.heap.size + 1 + 1 < w8.heap.size := by omega)
      (try have hN8_5_21 : w5.heap.size + 1 + 1 < w8.heap.size + 1 := by omega)
      (try have hN8_5_22 : w5.heap.size + 1 + 1 < w8.heap.size + 1 + 1 := by omega)
      (try have hN8_6_00 : w6.heap.size < w8.heap.size := by omega)
      (try have hN8_6_01 : w6.heap.size < w8.heap.size + 1 := by omega)
      (try have hN8_6_02 : w6.heap.size < w8.heap.size + 1 + 1 := by omega)
      (try have hN8_6_10 : w6.heap.size + 1 < w8.heap.size := by omega)
      (try have hN8_6_11 : w6.heap.size + 1 < w8.heap.size + 1 := by omega)
      (try have hN8_6_12 : w6.heap.size + 1 < w8.heap.size + 1 + 1 := by omega)
      (try have hN8_6_20 : w6.heap.size + 1 + 1 < w8.heap.size := by omega)
      (try have hN8_6_21 : w6.heap.size + 1 + 1 < w8.heap.size + 1 := by omega)
      (try have hN8_6_22 : w6.heap.size + 1 + 1 < w8.heap.size + 1 + 1 := by omega)
      (try have hN8_7_00 : w7.heap.size < w8.heap.size := by omega)
      (try have hN8_7_01 : w7.heap.size < w8.heap.size + 1 := by omega)
      (try have hN8_7_02 : w7.heap.size < w8.heap.size + 1 + 1 := by omega)
      (try have hN8_7_10 : w7.heap.size + 1 < w8.heap.size := by omega)
      (try have hN8_7_11 : w7.heap.size + 1 < w8.heap.size + 1 := by omega)
      (try have hN8_7_12 : w7.heap.size + 1 < w8.heap.size + 1 + 1 := by omega)
      (try have hN8_7_20 : w7.heap.size + 1 + 1 < w8.heap.size := by omega)
      (try have hN8_7_21 : w7.heap.size + 1 + 1 < w8.heap.size + 1 := by omega)
      (try have hN8_7_22 : w7.heap.size + 1 + 1 < w8.heap.size + 1 + 1 := by omega)
      (try have hL8_1 : w1.heap.size ≤ w8.heap.size := by omega)
      (try have hL8_2 : w2.heap.size ≤ w8.heap.size := by omega)
      (try have hL8_3 : w3.heap.size ≤ w8.heap.size := by omega)
      (try have hL8_4 : w4.heap.size ≤ w8.heap.size := by omega)
      (try have hL8_5 : w5.heap.size ≤ w8.heap.size := by omega)
      (try have hL8_6 : w6.heap.size ≤ w8.heap.size := by omega)
      (try have hL8_7 : w7.heap.size ≤ w8.heap.size := by omega)
      (try have hS8_1 : w1.heap.size < w8.heap.size := by omega)
      (try have hS8_1' : w1.heap.size + 1 < w8.heap.size := by omega)
      (try have hS8_2 : w2.heap.size < w8.heap.size := by omega)
      (try have hS8_2' : w2.heap.size + 1 < w8.heap.size := by omega)
      (try have hS8_3 : w3.heap.size < w8.heap.size := by omega)
      (try have hS8_3' : w3.heap.size + 1 < w8.heap.size := by omega)
      (try have hS8_4 : w4.heap.size < w8.heap.size := by omega)
      (try have hS8_4' : w4.heap.size + 1 < w8.heap.size := by omega)
      (try have hS8_5 : w5.heap.size < w8.heap.size := by omega)
      (try have hS8_5' : w5.heap.size + 1 < w8.heap.size := by omega)
      (try have hS8_6 : w6.heap.size < w8.heap.size := by omega)
      (try have hS8_6' : w6.heap.size + 1 < w8.heap.size := by omega)
      (try have hS8_7 : w7.heap.size < w8.heap.size := by omega)
      (try have hS8_7' : w7.heap.size + 1 < w8.heap.size := by omega)
      go_wp2_with fail
      refine (hi.out _).mono ?_
      rintro e9 w9 ⟨rfl, hB9⟩
      obtain ⟨hC9, hF9⟩ := bcell hB9
      have hS9 := hB9.size
      (try simp at hS9)
      (try have hS9_w0 : w.heap.size < w9.heap.size := by omega)
      (try have hS9_w1 : w.heap.size + 1 < w9.heap.size := by omega)
      (try have hS9_w2 : w.heap.size + 1 + 1 < w9.heap.size := by omega)
      (try have hS9_w3 : w.heap.size + 1 + 1 + 1 < w9.heap.size := by omega)
      (try have hS9_w4 : w.heap.size + 1 + 1 + 1 + 1 < w9.heap.size := by omega)
      (try have hL9_w0 : w.heap.size ≤ w9.heap.size := by omega)
      (try have hL9_w1 : w.heap.size + 1 ≤ w9.heap.size := by omega)
      (try have hL9_w2 : w.heap.size + 1 + 1 ≤ w9.heap.size := by omega)
      (try have hL9_w3 : w.heap.size + 1 + 1 + 1 ≤ w9.heap.size := by omega)
      (try have hL9_w : w.heap.size ≤ w9.heap.size + 1 := by omega)
      (try have hM9_1 : w.heap.size < w9.heap.size + 1 := by omega)
      (try have hM9_2 : w.heap.size < w9.heap.size + 1 + 1 := by omega)
      (try have hM9_3 : w.heap.size < w9.heap.size + 1 + 1 + 1 := by omega)
      (try have hN9_6_00 : w6.heap.size < w9.heap.size := by omega)
      (try have hN9_6_01 : w6.heap.size < w9.heap.size + 1 := by omega)
      (try have hN9_6_02 : w6.heap.size < w9.heap.size + 1 + 1 := by omega)
      (try have hN9_6_10 : w6.heap.size + 1 < w9.heap.size := by omega)
      (try have hN9_6_11 : w6.heap.size + 1 < w9.heap.size + 1 := by omega)
      (try have hN9_6_12 : w6.heap.size + 1 < w9.heap.size + 1 + 1 := by omega)
      (try have hN9_6_20 : w6.heap.size + 1 + 1 < w9.heap.size := by omega)
      (try have hN9_6_21 : w6.heap.size + 1 + 1 < w9.heap.size + 1 := by omega)
      (try have hN9_6_22 : w6.heap.size + 1 + 1 < w9.heap.size + 1 + 1 := by omega)
      (try have hN9_7_00 : w7.heap.size < w9.heap.size := by omega)
      (try have hN9_7_01 : w7.heap.size < w9.heap.size + 1 := by omega)
      (try have hN9_7_02 : w7.heap.size < w9.heap.size + 1 + 1 := by omega)
      (try have hN9_7_10 : w7.heap.size + 1 < w9.heap.size := by omega)
      (try have hN9_7_11 : w7.heap.size + 1 < w9.heap.size + 1 := by omega)
      (try have hN9_7_12 : w7.heap.size + 1 < w9.heap.size + 1 + 1 := by omega)
      (try have hN9_7_20 : w7.heap.size + 1 + 1 < w9.heap.size := by omega)
      (try have hN9_7_21 : w7.heap.size + 1 + 1 < w9.heap.size + 1 := by omega)
      (try have hN9_7_22 : w7.heap.size + 1 + 1 < w9.heap.size + 1 + 1 := by omega)
      (try have hN9_8_00 : w8.heap.size < w9.heap.size := by omega)
      (try have hN9_8_01 : w8.heap.size < w9.heap.size + 1 := by omega)
      (try have hN9_8_02 : w8.heap.size < w9.heap.size + 1 + 1 := by omega)
      (try have hN9_8_10 : w8.heap.size + 1 < w9.heap.size := by omega)
      (try have hN9_8_11 : w8.heap.size + 1 < w9.heap.size + 1 := by omega)
      (try have hN9_8_12 : w8.heap.size + 1 < w9.heap.size + 1 + 1 := by omega)
      (try have hN9_8_20 : w8.heap.size + 1 + 1 < w9.heap.size := by omega)
      (try have hN9_8_21 : w8.heap.size + 1 + 1 < w9.heap.size + 1 := by omega)
      (try have hN9_8_22 : w8.heap.size + 1 + 1 < w9.heap.size + 1 + 1 := by omega)
      (try have hL9_1 : w1.heap.size ≤ w9.heap.size := by omega)
      (try have hL9_2 : w2.heap.size ≤ w9.heap.size := by omega)
      (try have hL9_3 : w3.heap.size ≤ w9.heap.size := by omega)
      (try have hL9_4 : w4.heap.size ≤ w9.heap.size := by omega)
      (try have hL9_5 : w5.heap.size ≤ w9.heap.size := by omega)
      (try have hL9_6 : w6.heap.size ≤ w9.heap.size := by omega)
      (try have hL9_7 : w7.heap.size ≤ w9.heap.size := by omega)
      (try have hL9_8 : w8.heap.size ≤ w9.heap.size := by omega)
      (try have hS9_1 : w1.heap.size < w9.heap.size := by omega)
      (try have hS9_1' : w1.heap.size + 1 < w9.heap.size := by omega)
      (try have hS9_2 : w2.heap.size < w9.heap.size := by omega)
      (try have hS9_2' : w2.heap.size + 1 < w9.heap.size := by omega)
      (try have hS9_3 : w3.heap.size < w9.heap.size := by omega)
      (try have hS9_3' : w3.heap.size + 1 < w9.heap.size := by omega)
      (try have hS9_4 : w4.heap.size < w9.heap.size := by omega)
      (try have hS9_4' : w4.heap.size + 1 < w9.heap.size := by omega)
      (try have hS9_5 : w5.heap.size < w9.heap.size := by omega)
      (try have hS9_5' : w5.heap.size + 1 < w9.heap.size := by omega)
      (try have hS9_6 : w6.heap.size < w9.heap.size := by omega)
      (try have hS9_6' : w6.heap.size + 1 < w9.heap.size := by omega)
      (try have hS9_7 : w7.heap.size < w9.heap.size := by omega)
      (try have hS9_7' : w7.heap.size + 1 < w9.heap.size := by omega)
      (try have hS9_8 : w8.heap.size < w9.heap.size := by omega)
      (try have hS9_8' : w8.heap.size + 1 < w9.heap.size := by omega)
      go_wp2_with fail
      (refine bodyPost_ret (v := .tuple #[.agg #[.int .i64 0, .int .i64 0, .int .i64 0], .bool false]) ?_ rfl ⟨?_, ?_⟩; (focus (go_light; first | (simp [results, Try.results27, go_sem, *]; done) | (simp (disch := first | omega | (simp <;> omega) | (refine isSome_of ?_ ?_; (focus ((repeat (first | ((with_reducible refine (cell_alloc_old _ _ _ _ ?_).trans ?_); (focus (first | omega | (simp <;> omega)))) | ((with_reducible refine (bG (by assumption) ?_).trans ?_); (focus (first | omega | (simp <;> omega)))))); exact rfl)); simp [go_sem]) | fail) [results, Try.results27, go_sem, *]; done))); (focus (rfl)); repeat (first | with_reducible exact Below.refl _ _ | with_reducible assumption | ((with_reducible refine blA ?_ ?_); (focus (first | omega | (simp <;> omega)))) | (with_reducible refine blD ?_) | (with_reducible refine blN ?_) | ((with_reducible refine blS ?_ ?_); (focus (first | omega | (simp <;> omega)))) | ((with_reducible refine blT (by assumption) ?_ ?_); (focus (first | omega | (simp <;> omega))))))
  · have c' : (fnB d && idB d e a b) = false := by simpa using c
    have hR : quR d e a b e' a' b' = ((0, 0, 0), false) := by rw [quR, quG, c', Bool.false_and, Bool.false_and]; rfl
    rw [hR]
    have hw : Hid (∀ w1, Calls Try.prog 40 #[.int .i64 d, .agg #[.int .i64 e, .int .i64 a, .int .i64 b]] w1 fun en w' => en = .returned (.bool false) ∧ Below w1.heap.size w1 w') := fun w1 => by rw [← c']; exact piGood_any d e a b w1 hd
    clear hR c c'
    go_enter Try.func27, Try.ntmps27
    go_wp2_with fail
    refine (hw.out _).mono ?_
    rintro e10 w10 ⟨rfl, hB10⟩
    obtain ⟨hC10, hF10⟩ := bcell hB10
    have hS10 := hB10.size
    (try simp at hS10)
    (try have hS10_w0 : w.heap.size < w10.heap.size := by omega)
    (try have hS10_w1 : w.heap.size + 1 < w10.heap.size := by omega)
    (try have hS10_w2 : w.heap.size + 1 + 1 < w10.heap.size := by omega)
    (try have hS10_w3 : w.heap.size + 1 + 1 + 1 < w10.heap.size := by omega)
    (try have hS10_w4 : w.heap.size + 1 + 1 + 1 + 1 < w10.heap.size := by omega)
    (try have hL10_w0 : w.heap.size ≤ w10.heap.size := by omega)
    (try have hL10_w1 : w.heap.size + 1 ≤ w10.heap.size := by omega)
    (try have hL10_w2 : w.heap.size + 1 + 1 ≤ w10.heap.size := by omega)
    (try have hL10_w3 : w.heap.size + 1 + 1 + 1 ≤ w10.heap.size := by omega)
    (try have hL10_w : w.heap.size ≤ w10.heap.size + 1 := by omega)
    (try have hM10_1 : w.heap.size < w10.heap.size + 1 := by omega)
    (try have hM10_2 : w.heap.size < w10.heap.size + 1 + 1 := by omega)
    (try have hM10_3 : w.heap.size < w10.heap.size + 1 + 1 + 1 := by omega)
    (try have hN10_7_00 : w7.heap.size < w10.heap.size := by omega)
    (try have hN10_7_01 : w7.heap.size < w10.heap.size + 1 := by omega)
    (try have hN10_7_02 : w7.heap.size < w10.heap.size + 1 + 1 := by omega)
    (try have hN10_7_10 : w7.heap.size + 1 < w10.heap.size := by omega)
    (try have hN10_7_11 : w7.heap.size + 1 < w10.heap.size + 1 := by omega)
    (try have hN10_7_12 : w7.heap.size + 1 < w10.heap.size + 1 + 1 := by omega)
    (try have hN10_7_20 : w7.heap.size + 1 + 1 < w10.heap.size := by omega)
    (try have hN10_7_21 : w7.heap.size + 1 + 1 < w10.heap.size + 1 := by omega)
    (try have hN10_7_22 : w7.heap.size + 1 + 1 < w10.heap.size + 1 + 1 := by omega)
    (try have hN10_8_00 : w8.heap.size < w10.heap.size := by omega)
    (try have hN10_8_01 : w8.heap.size < w10.heap.size + 1 := by omega)
    (try have hN10_8_02 : w8.heap.size < w10.heap.size + 1 + 1 := by omega)
    (try have hN10_8_10 : w8.heap.size + 1 < w10.heap.size := by omega)
    (try have hN10_8_11 : w8.heap.size + 1 < w10.heap.size + 1 := by omega)
    (try have hN10_8_12 : w8.heap.size + 1 < w10.heap.size + 1 + 1 := by omega)
    (try have hN10_8_20 : w8.heap.size + 1 + 1 < w10.heap.size := by omega)
    (try have hN10_8_21 : w8.heap.size + 1 + 1 < w10.heap.size + 1 := by omega)
    (try have hN10_8_22 : w8.heap.size + 1 + 1 < w10.heap.size + 1 + 1 := by omega)
    (try have hN10_9_00 : w9.heap.size < w10.heap.size := by omega)
    (try have hN10_9_01 : w9.heap.size < w10.heap.size + 1 := by omega)
    (try have hN10_9_02 : w9.heap.size < w10.heap.size + 1 + 1 := by omega)
    (try have hN10_9_10 : w9.heap.size + 1 < w10.heap.size := by omega)
    (try have hN10_9_11 : w9.heap.size + 1 < w10.heap.size + 1 := by omega)
    (try have hN10_9_12 : w9.heap.size + 1 < w10.heap.size + 1 + 1 := by omega)
    (try have hN10_9_20 : w9.heap.size + 1 + 1 < w10.heap.size := by omega)
    (try have hN10_9_21 : w9.heap.size + 1 + 1 < w10.heap.size + 1 := by omega)
    (try have hN10_9_22 : w9.heap.size + 1 + 1 < w10.heap.size + 1 + 1 := by omega)
    (try have hL10_1 : w1.heap.size ≤ w10.heap.size := by omega)
    (try have hL10_2 : w2.heap.size ≤ w10.heap.size := by omega)
    (try have hL10_3 : w3.heap.size ≤ w10.heap.size := by omega)
    (try have hL10_4 : w4.heap.size ≤ w10.heap.size := by omega)
    (try have hL10_5 : w5.heap.size ≤ w10.heap.size := by omega)
    (try have hL10_6 : w6.heap.size ≤ w10.heap.size := by omega)
    (try have hL10_7 : w7.heap.size ≤ w10.heap.size := by omega)
    (try have hL10_8 : w8.heap.size ≤ w10.heap.size := by omega)
    (try have hL10_9 : w9.heap.size ≤ w10.heap.size := by omega)
    (try have hS10_1 : w1.heap.size < w10.heap.size := by omega)
    (try have hS10_1' : w1.heap.size + 1 < w10.heap.size := by omega)
    (try have hS10_2 : w2.heap.size < w10.heap.size := by omega)
    (try have hS10_2' : w2.heap.size + 1 < w10.heap.size := by omega)
    (try have hS10_3 : w3.heap.size < w10.heap.size := by omega)
    (try have hS10_3' : w3.heap.size + 1 < w10.heap.size := by omega)
    (try have hS10_4 : w4.heap.size < w10.heap.size := by omega)
    (try have hS10_4' : w4.heap.size + 1 < w10.heap.size := by omega)
    (try have hS10_5 : w5.heap.size < w10.heap.size := by omega)
    (try have hS10_5' : w5.heap.size + 1 < w10.heap.size := by omega)
    (try have hS10_6 : w6.heap.size < w10.heap.size := by omega)
    (try have hS10_6' : w6.heap.size + 1 < w10.heap.size := by omega)
    (try have hS10_7 : w7.heap.size < w10.heap.size := by omega)
    (try have hS10_7' : w7.heap.size + 1 < w10.heap.size := by omega)
    (try have hS10_8 : w8.heap.size < w10.heap.size := by omega)
    (try have hS10_8' : w8.heap.size + 1 < w10.heap.size := by omega)
    (try have hS10_9 : w9.heap.size < w10.heap.size := by omega)
    (try have hS10_9' : w9.heap.size + 1 < w10.heap.size := by omega)
    go_wp2_with fail
    (refine bodyPost_ret (v := .tuple #[.agg #[.int .i64 0, .int .i64 0, .int .i64 0], .bool false]) ?_ rfl ⟨?_, ?_⟩; (focus (go_light; first | (simp [results, Try.results27, go_sem, *]; done) | (simp (disch := first | omega | (simp <;> omega) | (refine isSome_of ?_ ?_; (focus ((repeat (first | ((with_reducible refine (cell_alloc_old _ _ _ _ ?_).trans ?_); (focus (first | omega | (simp <;> omega)))) | ((with_reducible refine (bG (by assumption) ?_).trans ?_); (focus (first | omega | (simp <;> omega)))))); exact rfl)); simp [go_sem]) | fail) [results, Try.results27, go_sem, *]; done))); (focus (rfl)); repeat (first | with_reducible exact Below.refl _ _ | with_reducible assumption | ((with_reducible refine blA ?_ ?_); (focus (first | omega | (simp <;> omega)))) | (with_reducible refine blD ?_) | (with_reducible refine blN ?_) | ((with_reducible refine blS ?_ ?_); (focus (first | omega | (simp <;> omega)))) | ((with_reducible refine blT (by assumption) ?_ ?_); (focus (first | omega | (simp <;> omega))))))
set_option maxRecDepth 100000 in
set_option maxHeartbeats 2000000 in
theorem law_idealQuotient (d e a b e' a' b' : Int) (w : World) (hd : I64 d) (_ : I64 e) (_ : I64 a) (_ : I64 b) (_ : I64 e') (_ : I64 a') (_ : I64 b') :
    Calls Try.prog 8 #[.int .i64 d, .agg #[.int .i64 e, .int .i64 a, .int .i64 b], .agg #[.int .i64 e', .int .i64 a', .int .i64 b']] w fun en w' => en = .returned (.bool true) ∧ Below w.heap.size w w' := by
  go_enter Try.func8, Try.ntmps8
  go_wp2_with fail
  refine region_mixed 9 (by kernel_rfl) (by kernel_rfl) (by kernel_rfl) ?_
  apply Exists.intro
  refine ⟨fun w0 hw0 => ?_, ?_⟩
  · obtain ⟨hC0, hF0⟩ := bcell hw0
    have hS0 := hw0.size
    (try simp at hS0)
    (try have hS0_w0 : w.heap.size < w0.heap.size := by omega)
    (try have hS0_w1 : w.heap.size + 1 < w0.heap.size := by omega)
    (try have hS0_w2 : w.heap.size + 1 + 1 < w0.heap.size := by omega)
    (try have hS0_w3 : w.heap.size + 1 + 1 + 1 < w0.heap.size := by omega)
    (try have hS0_w4 : w.heap.size + 1 + 1 + 1 + 1 < w0.heap.size := by omega)
    (try have hL0_w0 : w.heap.size ≤ w0.heap.size := by omega)
    (try have hL0_w1 : w.heap.size + 1 ≤ w0.heap.size := by omega)
    (try have hL0_w2 : w.heap.size + 1 + 1 ≤ w0.heap.size := by omega)
    (try have hL0_w3 : w.heap.size + 1 + 1 + 1 ≤ w0.heap.size := by omega)
    (try have hL0_w : w.heap.size ≤ w0.heap.size + 1 := by omega)
    (try have hM0_1 : w.heap.size < w0.heap.size + 1 := by omega)
    (try have hM0_2 : w.heap.size < w0.heap.size + 1 + 1 := by omega)
    (try have hM0_3 : w.heap.size < w0.heap.size + 1 + 1 + 1 := by omega)
    simp only [List.take_succ_cons, List.take_zero]
    repeat (first | go_big_quiet_skip | (go_big_quiet_want; go_big_quiet_op; first | go_big_quiet_on | (apply Exists.intro; refine ⟨fun _ => ?_, ?_⟩; (focus (first | (go_at_call 20; exact past_of (toIdeal_any _ _ _ _)) | (go_at_call 27; exact past_of (specIdealQuotient_any _ _ _ _ _ _ _ _ hd)))); go_big_quiet_on)))
    refine wpQuiet_nil ?_
    rfl
  intro W hW hWz
  simp only [List.drop_succ_cons, List.drop_zero]
  refine eff_new #[.int .i64 0, .int .i64 0, .int .i64 0] 34 [.int .i64 (quR d e a b e' a' b').1.1, .int .i64 (quR d e a b e' a' b').1.2.1, .int .i64 (quR d e a b e' a' b').1.2.2] rfl rfl rfl rfl (fun _ => by simp [go_sem]) (cl_refl _) (fun wa wb hb => ?_) (fun w1 hV1 => ?_)
  · obtain ⟨hc, hf⟩ := bnew hb
    refine ⟨.skip, ?_, Or.inl rfl⟩
    simp [go_sem, setAll, Act.put, hc, hf]
  have hB1 := hW.trans (hV1.mono hW.size)
  obtain ⟨hC1, hF1⟩ := bcell hB1
  have hS1 := hB1.size
  (try simp at hS1)
  (try have hS1_w0 : w.heap.size < w1.heap.size := by omega)
  (try have hS1_w1 : w.heap.size + 1 < w1.heap.size := by omega)
  (try have hS1_w2 : w.heap.size + 1 + 1 < w1.heap.size := by omega)
  (try have hS1_w3 : w.heap.size + 1 + 1 + 1 < w1.heap.size := by omega)
  (try have hS1_w4 : w.heap.size + 1 + 1 + 1 + 1 < w1.heap.size := by omega)
  (try have hL1_w0 : w.heap.size ≤ w1.heap.size := by omega)
  (try have hL1_w1 : w.heap.size + 1 ≤ w1.heap.size := by omega)
  (try have hL1_w2 : w.heap.size + 1 + 1 ≤ w1.heap.size := by omega)
  (try have hL1_w3 : w.heap.size + 1 + 1 + 1 ≤ w1.heap.size := by omega)
  (try have hL1_w : w.heap.size ≤ w1.heap.size + 1 := by omega)
  (try have hM1_1 : w.heap.size < w1.heap.size + 1 := by omega)
  (try have hM1_2 : w.heap.size < w1.heap.size + 1 + 1 := by omega)
  (try have hM1_3 : w.heap.size < w1.heap.size + 1 + 1 + 1 := by omega)
  have hK : Cl W (w1.alloc (.cells #[.int .i64 (quR d e a b e' a' b').1.1, .int .i64 (quR d e a b e' a' b').1.2.1, .int .i64 (quR d e a b e' a' b').1.2.2] 34)) := (cl_of hV1).alloc _
  refine eff_set _ rfl rfl hK ?_
  clear hK
  intro w2 hV2
  have hB2 := past_below hV2
  clear hV1 hV2 hW hWz
  obtain ⟨hC2, hF2⟩ := bcell hB2
  have hS2 := hB2.size
  (try simp at hS2)
  (try have hS2_w0 : w.heap.size < w2.heap.size := by omega)
  (try have hS2_w1 : w.heap.size + 1 < w2.heap.size := by omega)
  (try have hS2_w2 : w.heap.size + 1 + 1 < w2.heap.size := by omega)
  (try have hS2_w3 : w.heap.size + 1 + 1 + 1 < w2.heap.size := by omega)
  (try have hS2_w4 : w.heap.size + 1 + 1 + 1 + 1 < w2.heap.size := by omega)
  (try have hL2_w0 : w.heap.size ≤ w2.heap.size := by omega)
  (try have hL2_w1 : w.heap.size + 1 ≤ w2.heap.size := by omega)
  (try have hL2_w2 : w.heap.size + 1 + 1 ≤ w2.heap.size := by omega)
  (try have hL2_w3 : w.heap.size + 1 + 1 + 1 ≤ w2.heap.size := by omega)
  (try have hL2_w : w.heap.size ≤ w2.heap.size + 1 := by omega)
  (try have hM2_1 : w.heap.size < w2.heap.size + 1 := by omega)
  (try have hM2_2 : w.heap.size < w2.heap.size + 1 + 1 := by omega)
  (try have hM2_3 : w.heap.size < w2.heap.size + 1 + 1 + 1 := by omega)
  (try have hN2_1_00 : w1.heap.size < w2.heap.size := by omega)
  (try have hN2_1_01 : w1.heap.size < w2.heap.size + 1 := by omega)
  (try have hN2_1_02 : w1.heap.size < w2.heap.size + 1 + 1 := by omega)
  (try have hN2_1_10 : w1.heap.size + 1 < w2.heap.size := by omega)
  (try have hN2_1_11 : w1.heap.size + 1 < w2.heap.size + 1 := by omega)
  (try have hN2_1_12 : w1.heap.size + 1 < w2.heap.size + 1 + 1 := by omega)
  (try have hN2_1_20 : w1.heap.size + 1 + 1 < w2.heap.size := by omega)
  (try have hN2_1_21 : w1.heap.size + 1 + 1 < w2.heap.size + 1 := by omega)
  (try have hN2_1_22 : w1.heap.size + 1 + 1 < w2.heap.size + 1 + 1 := by omega)
  (try have hL2_1 : w1.heap.size ≤ w2.heap.size := by omega)
  (try have hS2_1 : w1.heap.size < w2.heap.size := by omega)
  (try have hS2_1' : w1.heap.size + 1 < w2.heap.size := by omega)
  simp only [Act.put, Act.eval, List.setIfInBounds_toArray, List.set_cons_zero, List.set_cons_succ]
  go_wp2_with fail
  refine region_mixed 9 (by kernel_rfl) (by kernel_rfl) (by kernel_rfl) ?_
  apply Exists.intro
  refine ⟨fun w0 hw0 => ?_, ?_⟩
  · obtain ⟨hC0, hF0⟩ := bcell hw0
    have hS0 := hw0.size
    (try simp at hS0)
    (try have hS0_w0 : w.heap.size < w0.heap.size := by omega)
    (try have hS0_w1 : w.heap.size + 1 < w0.heap.size := by omega)
    (try have hS0_w2 : w.heap.size + 1 + 1 < w0.heap.size := by omega)
    (try have hS0_w3 : w.heap.size + 1 + 1 + 1 < w0.heap.size := by omega)
    (try have hS0_w4 : w.heap.size + 1 + 1 + 1 + 1 < w0.heap.size := by omega)
    (try have hL0_w0 : w.heap.size ≤ w0.heap.size := by omega)
    (try have hL0_w1 : w.heap.size + 1 ≤ w0.heap.size := by omega)
    (try have hL0_w2 : w.heap.size + 1 + 1 ≤ w0.heap.size := by omega)
    (try have hL0_w3 : w.heap.size + 1 + 1 + 1 ≤ w0.heap.size := by omega)
    (try have hL0_w : w.heap.size ≤ w0.heap.size + 1 := by omega)
    (try have hM0_1 : w.heap.size < w0.heap.size + 1 := by omega)
    (try have hM0_2 : w.heap.size < w0.heap.size + 1 + 1 := by omega)
    (try have hM0_3 : w.heap.size < w0.heap.size + 1 + 1 + 1 := by omega)
    (try have hN0_1_00 : w1.heap.size < w0.heap.size := by omega)
    (try have hN0_1_01 : w1.heap.size < w0.heap.size + 1 := by omega)
    (try have hN0_1_02 : w1.heap.size < w0.heap.size + 1 + 1 := by omega)
    (try have hN0_1_10 : w1.heap.size + 1 < w0.heap.size := by omega)
    (try have hN0_1_11 : w1.heap.size + 1 < w0.heap.size + 1 := by omega)
    (try have hN0_1_12 : w1.heap.size + 1 < w0.heap.size + 1 + 1 := by omega)
    (try have hN0_1_20 : w1.heap.size + 1 + 1 < w0.heap.size := by omega)
    (try have hN0_1_21 : w1.heap.size + 1 + 1 < w0.heap.size + 1 := by omega)
    (try have hN0_1_22 : w1.heap.size + 1 + 1 < w0.heap.size + 1 + 1 := by omega)
    (try have hN0_2_00 : w2.heap.size < w0.heap.size := by omega)
    (try have hN0_2_01 : w2.heap.size < w0.heap.size + 1 := by omega)
    (try have hN0_2_02 : w2.heap.size < w0.heap.size + 1 + 1 := by omega)
    (try have hN0_2_10 : w2.heap.size + 1 < w0.heap.size := by omega)
    (try have hN0_2_11 : w2.heap.size + 1 < w0.heap.size + 1 := by omega)
    (try have hN0_2_12 : w2.heap.size + 1 < w0.heap.size + 1 + 1 := by omega)
    (try have hN0_2_20 : w2.heap.size + 1 + 1 < w0.heap.size := by omega)
    (try have hN0_2_21 : w2.heap.size + 1 + 1 < w0.heap.size + 1 := by omega)
    (try have hN0_2_22 : w2.heap.size + 1 + 1 < w0.heap.size + 1 + 1 := by omega)
    (try have hL0_1 : w1.heap.size ≤ w0.heap.size := by omega)
    (try have hL0_2 : w2.heap.size ≤ w0.heap.size := by omega)
    (try have hS0_1 : w1.heap.size < w0.heap.size := by omega)
    (try have hS0_1' : w1.heap.size + 1 < w0.heap.size := by omega)
    (try have hS0_2 : w2.heap.size < w0.heap.size := by omega)
    (try have hS0_2' : w2.heap.size + 1 < w0.heap.size := by omega)
    simp only [List.take_succ_cons, List.take_zero]
    repeat (first | go_big_quiet_skip | (go_big_quiet_want; go_big_quiet_op; first | go_big_quiet_on | (apply Exists.intro; refine ⟨fun _ => ?_, ?_⟩; (focus (first | (go_at_call 20; exact past_of (toIdeal_any _ _ _ _)) | (go_at_call 28; exact past_of (implIdealQuotient_any _ _ _ _ _ _ _ _ hd)))); go_big_quiet_on)))
    refine wpQuiet_nil ?_
    rfl
  intro W hW hWz
  simp only [List.drop_succ_cons, List.drop_zero]
  refine eff_new #[.int .i64 0, .int .i64 0, .int .i64 0] 34 [.int .i64 (quR d e a b e' a' b').1.1, .int .i64 (quR d e a b e' a' b').1.2.1, .int .i64 (quR d e a b e' a' b').1.2.2] rfl rfl rfl rfl (fun _ => by simp [go_sem]) (cl_refl _) (fun wa wb hb => ?_) (fun w3 hV3 => ?_)
  · obtain ⟨hc, hf⟩ := bnew hb
    refine ⟨.skip, ?_, Or.inl rfl⟩
    simp [go_sem, setAll, Act.put, hc, hf]
  have hB3 := hW.trans (hV3.mono hW.size)
  obtain ⟨hC3, hF3⟩ := bcell hB3
  have hS3 := hB3.size
  (try simp at hS3)
  (try have hS3_w0 : w.heap.size < w3.heap.size := by omega)
  (try have hS3_w1 : w.heap.size + 1 < w3.heap.size := by omega)
  (try have hS3_w2 : w.heap.size + 1 + 1 < w3.heap.size := by omega)
  (try have hS3_w3 : w.heap.size + 1 + 1 + 1 < w3.heap.size := by omega)
  (try have hS3_w4 : w.heap.size + 1 + 1 + 1 + 1 < w3.heap.size := by omega)
  (try have hL3_w0 : w.heap.size ≤ w3.heap.size := by omega)
  (try have hL3_w1 : w.heap.size + 1 ≤ w3.heap.size := by omega)
  (try have hL3_w2 : w.heap.size + 1 + 1 ≤ w3.heap.size := by omega)
  (try have hL3_w3 : w.heap.size + 1 + 1 + 1 ≤ w3.heap.size := by omega)
  (try have hL3_w : w.heap.size ≤ w3.heap.size + 1 := by omega)
  (try have hM3_1 : w.heap.size < w3.heap.size + 1 := by omega)
  (try have hM3_2 : w.heap.size < w3.heap.size + 1 + 1 := by omega)
  (try have hM3_3 : w.heap.size < w3.heap.size + 1 + 1 + 1 := by omega)
  (try have hN3_1_00 : w1.heap.size < w3.heap.size := by omega)
  (try have hN3_1_01 : w1.heap.size < w3.heap.size + 1 := by omega)
  (try have hN3_1_02 : w1.heap.size < w3.heap.size + 1 + 1 := by omega)
  (try have hN3_1_10 : w1.heap.size + 1 < w3.heap.size := by omega)
  (try have hN3_1_11 : w1.heap.size + 1 < w3.heap.size + 1 := by omega)
  (try have hN3_1_12 : w1.heap.size + 1 < w3.heap.size + 1 + 1 := by omega)
  (try have hN3_1_20 : w1.heap.size + 1 + 1 < w3.heap.size := by omega)
  (try have hN3_1_21 : w1.heap.size + 1 + 1 < w3.heap.size + 1 := by omega)
  (try have hN3_1_22 : w1.heap.size + 1 + 1 < w3.heap.size + 1 + 1 := by omega)
  (try have hN3_2_00 : w2.heap.size < w3.heap.size := by omega)
  (try have hN3_2_01 : w2.heap.size < w3.heap.size + 1 := by omega)
  (try have hN3_2_02 : w2.heap.size < w3.heap.size + 1 + 1 := by omega)
  (try have hN3_2_10 : w2.heap.size + 1 < w3.heap.size := by omega)
  (try have hN3_2_11 : w2.heap.size + 1 < w3.heap.size + 1 := by omega)
  (try have hN3_2_12 : w2.heap.size + 1 < w3.heap.size + 1 + 1 := by omega)
  (try have hN3_2_20 : w2.heap.size + 1 + 1 < w3.heap.size := by omega)
  (try have hN3_2_21 : w2.heap.size + 1 + 1 < w3.heap.size + 1 := by omega)
  (try have hN3_2_22 : w2.heap.size + 1 + 1 < w3.heap.size + 1 + 1 := by omega)
  (try have hL3_1 : w1.heap.size ≤ w3.heap.size := by omega)
  (try have hL3_2 : w2.heap.size ≤ w3.heap.size := by omega)
  (try have hS3_1 : w1.heap.size < w3.heap.size := by omega)
  (try have hS3_1' : w1.heap.size + 1 < w3.heap.size := by omega)
  (try have hS3_2 : w2.heap.size < w3.heap.size := by omega)
  (try have hS3_2' : w2.heap.size + 1 < w3.heap.size := by omega)
  have hK : Cl W (w3.alloc (.cells #[.int .i64 (quR d e a b e' a' b').1.1, .int .i64 (quR d e a b e' a' b').1.2.1, .int .i64 (quR d e a b e' a' b').1.2.2] 34)) := (cl_of hV3).alloc _
  refine eff_set _ rfl rfl hK ?_
  clear hK
  intro w4 hV4
  have hB4 := past_below hV4
  clear hV3 hV4 hW hWz
  obtain ⟨hC4, hF4⟩ := bcell hB4
  have hS4 := hB4.size
  (try simp at hS4)
  (try have hS4_w0 : w.heap.size < w4.heap.size := by omega)
  (try have hS4_w1 : w.heap.size + 1 < w4.heap.size := by omega)
  (try have hS4_w2 : w.heap.size + 1 + 1 < w4.heap.size := by omega)
  (try have hS4_w3 : w.heap.size + 1 + 1 + 1 < w4.heap.size := by omega)
  (try have hS4_w4 : w.heap.size + 1 + 1 + 1 + 1 < w4.heap.size := by omega)
  (try have hL4_w0 : w.heap.size ≤ w4.heap.size := by omega)
  (try have hL4_w1 : w.heap.size + 1 ≤ w4.heap.size := by omega)
  (try have hL4_w2 : w.heap.size + 1 + 1 ≤ w4.heap.size := by omega)
  (try have hL4_w3 : w.heap.size + 1 + 1 + 1 ≤ w4.heap.size := by omega)
  (try have hL4_w : w.heap.size ≤ w4.heap.size + 1 := by omega)
  (try have hM4_1 : w.heap.size < w4.heap.size + 1 := by omega)
  (try have hM4_2 : w.heap.size < w4.heap.size + 1 + 1 := by omega)
  (try have hM4_3 : w.heap.size < w4.heap.size + 1 + 1 + 1 := by omega)
  (try have hN4_1_00 : w1.heap.size < w4.heap.size := by omega)
  (try have hN4_1_01 : w1.heap.size < w4.heap.size + 1 := by omega)
  (try have hN4_1_02 : w1.heap.size < w4.heap.size + 1 + 1 := by omega)
  (try have hN4_1_10 : w1.heap.size + 1 < w4.heap.size := by omega)
  (try have hN4_1_11 : w1.heap.size + 1 < w4.heap.size + 1 := by omega)
  (try have hN4_1_12 : w1.heap.size + 1 < w4.heap.size + 1 + 1 := by omega)
  (try have hN4_1_20 : w1.heap.size + 1 + 1 < w4.heap.size := by omega)
  (try have hN4_1_21 : w1.heap.size + 1 + 1 < w4.heap.size + 1 := by omega)
  (try have hN4_1_22 : w1.heap.size + 1 + 1 < w4.heap.size + 1 + 1 := by omega)
  (try have hN4_2_00 : w2.heap.size < w4.heap.size := by omega)
  (try have hN4_2_01 : w2.heap.size < w4.heap.size + 1 := by omega)
  (try have hN4_2_02 : w2.heap.size < w4.heap.size + 1 + 1 := by omega)
  (try have hN4_2_10 : w2.heap.size + 1 < w4.heap.size := by omega)
  (try have hN4_2_11 : w2.heap.size + 1 < w4.heap.size + 1 := by omega)
  (try have hN4_2_12 : w2.heap.size + 1 < w4.heap.size + 1 + 1 := by omega)
  (try have hN4_2_20 : w2.heap.size + 1 + 1 < w4.heap.size := by omega)
  (try have hN4_2_21 : w2.heap.size + 1 + 1 < w4.heap.size + 1 := by omega)
  (try have hN4_2_22 : w2.heap.size + 1 + 1 < w4.heap.size + 1 + 1 := by omega)
  (try have hN4_3_00 : w3.heap.size < w4.heap.size := by omega)
  (try have hN4_3_01 : w3.heap.size < w4.heap.size + 1 := by omega)
  (try have hN4_3_02 : w3.heap.size < w4.heap.size + 1 + 1 := by omega)
  (try have hN4_3_10 : w3.heap.size + 1 < w4.heap.size := by omega)
  (try have hN4_3_11 : w3.heap.size + 1 < w4.heap.size + 1 := by omega)
  (try have hN4_3_12 : w3.heap.size + 1 < w4.heap.size + 1 + 1 := by omega)
  (try have hN4_3_20 : w3.heap.size + 1 + 1 < w4.heap.size := by omega)
  (try have hN4_3_21 : w3.heap.size + 1 + 1 < w4.heap.size + 1 := by omega)
  (try have hN4_3_22 : w3.heap.size + 1 + 1 < w4.heap.size + 1 + 1 := by omega)
  (try have hL4_1 : w1.heap.size ≤ w4.heap.size := by omega)
  (try have hL4_2 : w2.heap.size ≤ w4.heap.size := by omega)
  (try have hL4_3 : w3.heap.size ≤ w4.heap.size := by omega)
  (try have hS4_1 : w1.heap.size < w4.heap.size := by omega)
  (try have hS4_1' : w1.heap.size + 1 < w4.heap.size := by omega)
  (try have hS4_2 : w2.heap.size < w4.heap.size := by omega)
  (try have hS4_2' : w2.heap.size + 1 < w4.heap.size := by omega)
  (try have hS4_3 : w3.heap.size < w4.heap.size := by omega)
  (try have hS4_3' : w3.heap.size + 1 < w4.heap.size := by omega)
  simp only [Act.put, Act.eval, List.setIfInBounds_toArray, List.set_cons_zero, List.set_cons_succ]
  go_wp2_with (go_at_call 24; refine (eqIdeal_eq _ _ _ _).mono ?_; rintro e w' ⟨rfl, hB⟩; obtain ⟨hC, hF⟩ := bcell hB; have hS := hB.size; (try simp at hS); (try have hSl := Nat.lt_of_succ_le hS); (try have hS0 : w.heap.size < w'.heap.size := by omega); (try have hS1 : w.heap.size + 1 < w'.heap.size := by omega); (try have hS2 : w.heap.size + 1 + 1 < w'.heap.size := by omega); (try have hS3 : w.heap.size + 1 + 1 + 1 < w'.heap.size := by omega))
  go_ret
  refine ⟨rfl, ?_⟩
  repeat (first | with_reducible exact Below.refl _ _ | with_reducible assumption | ((with_reducible refine blA ?_ ?_); (focus (first | omega | (simp <;> omega)))) | (with_reducible refine blD ?_) | (with_reducible refine blN ?_) | ((with_reducible refine blS ?_ ?_); (focus (first | omega | (simp <;> omega)))) | ((with_reducible refine blT (by assumption) ?_ ?_); (focus (first | omega | (simp <;> omega)))))
end Go.Proofs.Ytladcjoiaoaedaa
