/-
  Indefinite forms walked, both ways: the neighbour and its matrix.
-/
import Derived.Test.YtemnkfigjpphgaaForm
import Derived.Test.YtemnkfigjpphgaaPell
import Derived.Test.YtemnkfigjpphgaaDef
import Derived.Test.YtemnkfigjpphgaaMxi
import Derived.Test.YtemnkfigjpphgaaTwo
namespace Go.Proofs.Ytemnkfigjpphgaa
open Go.RowKit
attribute [local simp, local go_sem] past_cell past_frozen past_tape
def indB (a b c : Int) : Bool := formB a b c && posB (discW a b c)
theorem discW_I (a b c : Int) : I64 (discW a b c) := by unfold discW wrap64 I64; omega
theorem rt_of {d : Int} (h : posB d = true) : Rt (isqrt d) d ∧ isqrt d ≤ 31 := by
  obtain ⟨h1, h2⟩ := posB_true h
  obtain ⟨s1, s2, s3⟩ := isqrt_spec (show 0 ≤ d by omega)
  simp only [posB, Bool.and_eq_true, Bool.not_eq_true', sqB, Bool.and_eq_false_iff, decide_eq_false_iff_not] at h
  have hne : isqrt d * isqrt d ≠ d := by
    rcases h.2 with h | h
    · omega
    · exact h
  generalize isqrt d = r at *
  refine ⟨⟨?_, by omega, s3⟩, ?_⟩
  · refine lt_ne s1 fun e => ?_
    rw [← e] at s3
    omega
  · refine Int.le_of_not_gt fun hlt => ?_
    have := Int.mul_le_mul (show (32 : Int) ≤ r by omega) (show (32 : Int) ≤ r by omega) (by omega) s1
    omega
theorem ind_gd {a b c : Int} (h : indB a b c = true) : Gd (isqrt (discW a b c)) (discW a b c) (a, b, c) := by
  simp only [indB, Bool.and_eq_true] at h
  obtain ⟨b1, b2, b3⟩ := formB_bd h.1
  obtain ⟨r1, r2⟩ := rt_of h.2
  exact ⟨b1, b2, b3, (discW_eq b1 b2 b3).symm, r1, r2⟩
theorem Gd.dw {r d a b c : Int} (h : Gd r d (a, b, c)) : discW a b c = d := by rw [discW_eq h.a h.b h.c]; exact h.ds
theorem Gd.sq {r d : Int} {f : Fm} (h : Gd r d f) : isqrt d = r := isqrt_unique (by have := h.rt.r0; omega) (by have := h.rt.lo; omega) h.rt.hi
theorem Gd.d5 {r d : Int} {f : Fm} (h : Gd r d f) : 0 ≤ d ∧ d ≤ 1100 := by
  have h1 := h.rt.lo
  have h2 := h.rt.hi
  have h3 := sq_le (a := r + 1) (b := 32) (by have := h.rt.r0; omega) (by have := h.r31; omega)
  have h4 : 0 ≤ r * r := sq_pos
  exact ⟨by omega, by omega⟩
theorem Gd.ind {r d a b c : Int} (h : Gd r d (a, b, c)) (hp : posB d = true) : indB a b c = true := by
  unfold indB
  rw [h.dw, hp, Bool.and_true]
  simp only [formB, numB, Bool.and_eq_true]
  exact ⟨⟨decide_eq_true h.a, decide_eq_true h.b⟩, decide_eq_true h.c⟩
theorem isIndefinite_any (a b c : Int) (w : World) : Calls Try.prog 87 #[.agg #[.int .i64 a, .int .i64 b, .int .i64 c]] w fun en w' => en = .returned (.bool (indB a b c)) ∧ Below w.heap.size w w' := by
  have hI := discW_I a b c
  go_enter Try.func87, Try.ntmps87
  go_wp2_with (first | (go_at_call 83; refine (IsForm_any _ _ _ _).mono ?_; rintro e w' ⟨rfl, hB⟩; obtain ⟨hC, hF⟩ := bcell hB; have hS := hB.size; (try simp at hS); (try have hSl := Nat.lt_of_succ_le hS); (try have hS0 : w.heap.size < w'.heap.size := by omega); (try have hS1 : w.heap.size + 1 < w'.heap.size := by omega); (try have hS2 : w.heap.size + 1 + 1 < w'.heap.size := by omega); (try have hS3 : w.heap.size + 1 + 1 + 1 < w'.heap.size := by omega)) | (go_at_call 111; refine (disc_any _ _ _ _).mono ?_; rintro e w' ⟨rfl, hB⟩; obtain ⟨hC, hF⟩ := bcell hB; have hS := hB.size; (try simp at hS); (try have hSl := Nat.lt_of_succ_le hS); (try have hS0 : w.heap.size < w'.heap.size := by omega); (try have hS1 : w.heap.size + 1 < w'.heap.size := by omega); (try have hS2 : w.heap.size + 1 + 1 < w'.heap.size := by omega); (try have hS3 : w.heap.size + 1 + 1 + 1 < w'.heap.size := by omega)) | (go_at_call 44; refine (isPositiveDisc_any _ _ (by assumption)).mono ?_; rintro e w' ⟨rfl, rfl⟩))
  all_goals
    go_ret
    refine ⟨ret_bool ?_, ?_⟩
    · go_light
      unfold indB
      simp [*]
    · repeat (first | with_reducible exact Below.refl _ _ | with_reducible assumption | ((with_reducible refine blA ?_ ?_); (focus (first | omega | (simp <;> omega)))) | (with_reducible refine blD ?_) | (with_reducible refine blN ?_) | ((with_reducible refine blS ?_ ?_); (focus (first | omega | (simp <;> omega)))) | ((with_reducible refine blT (by assumption) ?_ ?_); (focus (first | omega | (simp <;> omega)))))
theorem cyGood_any (a b c : Int) (w : World) : Calls Try.prog 73 #[.agg #[.int .i64 a, .int .i64 b, .int .i64 c]] w fun en w' => en = .returned (.bool (indB a b c)) ∧ Below w.heap.size w w' := by
  have hI := discW_I a b c
  go_enter Try.func73, Try.ntmps73
  go_wp2_with (first | (go_at_call 112; refine (foGood_any _ _ _ _).mono ?_; rintro e w' ⟨rfl, hB⟩; obtain ⟨hC, hF⟩ := bcell hB; have hS := hB.size; (try simp at hS); (try have hSl := Nat.lt_of_succ_le hS); (try have hS0 : w.heap.size < w'.heap.size := by omega); (try have hS1 : w.heap.size + 1 < w'.heap.size := by omega); (try have hS2 : w.heap.size + 1 + 1 < w'.heap.size := by omega); (try have hS3 : w.heap.size + 1 + 1 + 1 < w'.heap.size := by omega)) | (go_at_call 74; refine (foDisc_any _ _ _ _).mono ?_; rintro e w' ⟨rfl, hB⟩; obtain ⟨hC, hF⟩ := bcell hB; have hS := hB.size; (try simp at hS); (try have hSl := Nat.lt_of_succ_le hS); (try have hS0 : w.heap.size < w'.heap.size := by omega); (try have hS1 : w.heap.size + 1 < w'.heap.size := by omega); (try have hS2 : w.heap.size + 1 + 1 < w'.heap.size := by omega); (try have hS3 : w.heap.size + 1 + 1 + 1 < w'.heap.size := by omega)) | (go_at_call 46; refine (cyDisc_any _ _ (by assumption)).mono ?_; rintro e w' ⟨rfl, rfl⟩))
  all_goals
    go_ret
    refine ⟨ret_bool ?_, ?_⟩
    · go_light
      unfold indB
      simp [*]
    · repeat (first | with_reducible exact Below.refl _ _ | with_reducible assumption | ((with_reducible refine blA ?_ ?_); (focus (first | omega | (simp <;> omega)))) | (with_reducible refine blD ?_) | (with_reducible refine blN ?_) | ((with_reducible refine blS ?_ ?_); (focus (first | omega | (simp <;> omega)))) | ((with_reducible refine blT (by assumption) ?_ ?_); (focus (first | omega | (simp <;> omega)))))
theorem isCyclic_any (r d a b c : Int) (w : World) (hg : Gd r d (a, b, c)) : Calls Try.prog 89 #[.agg #[.int .i64 a, .int .i64 b, .int .i64 c]] w fun en w' => en = .returned (.bool (cyB r (a, b, c))) ∧ Below w.heap.size w w' := by
  have hdd : Hid (∀ w0, Calls Try.prog 111 #[.agg #[.int .i64 a, .int .i64 b, .int .i64 c]] w0 fun en w' => en = .returned (.int .i64 d) ∧ Below w0.heap.size w0 w') := Lib.hid fun w0 => by have h := disc_any a b c w0; rwa [hg.dw] at h
  obtain ⟨d0, d1⟩ := hg.d5
  have hrr : Hid (∀ w0, Calls Try.prog 109 #[.int .i64 d] w0 fun en w' => en = .returned (.int .i64 r) ∧ w0 = w') := Lib.hid fun w0 => by have h := root_any d w0 d0 (by omega); rwa [hg.sq] at h
  obtain ⟨a1, a2⟩ := hg.a
  obtain ⟨b1, b2⟩ := hg.b
  have r0 := hg.rt.r0
  have r31 := hg.r31
  simp only at a1 a2 b1 b2
  have hJ : J64 a := ⟨by omega, by omega⟩
  have haa : Hid (∀ w0, Calls Try.prog 51 #[.int .i64 a] w0 fun en w' => en = .returned (.int .i64 (a.natAbs : Int)) ∧ w0 = w') := Lib.hid fun w0 => abs_nat a w0 hJ
  have hK : Hid (cyB r (a, b, c) = decide (0 < b ∧ b ≤ r ∧ r - b < 2 * (a.natAbs : Int) ∧ 2 * (a.natAbs : Int) ≤ r + b)) := Lib.hid rfl
  have hA0 : 0 ≤ (a.natAbs : Int) ∧ (a.natAbs : Int) ≤ 1000000 := by omega
  generalize (a.natAbs : Int) = A at *
  obtain ⟨A0, A1⟩ := hA0
  rw [hK.out]
  clear hK hg hJ
  have hw1 : wrap64 (2 * A) = 2 * A := by unfold wrap64; omega
  have hw2 : wrap64 (r - b) = r - b := by unfold wrap64; omega
  have hw3 : wrap64 (r + b) = r + b := by unfold wrap64; omega
  cases h1 : decide (0 < b) <;> cases h2 : decide (b ≤ r) <;> cases h3 : decide (r - b < 2 * A)
  all_goals
    go_enter Try.func89, Try.ntmps89
    go_wp2_with (first | (go_at_call 111; refine (hdd.out _).mono ?_; rintro e w' ⟨rfl, hB⟩; obtain ⟨hC, hF⟩ := bcell hB; have hS := hB.size; (try simp at hS); (try have hSl := Nat.lt_of_succ_le hS); (try have hS0 : w.heap.size < w'.heap.size := by omega); (try have hS1 : w.heap.size + 1 < w'.heap.size := by omega); (try have hS2 : w.heap.size + 1 + 1 < w'.heap.size := by omega); (try have hS3 : w.heap.size + 1 + 1 + 1 < w'.heap.size := by omega)) | (go_at_call 109; refine (hrr.out _).mono ?_; rintro e w' ⟨rfl, rfl⟩))
    refine wp_region_past (by kernel_rfl) (by kernel_rfl) ?_
    repeat (first | go_big_quiet_skip | (go_big_quiet_want; go_big_quiet_op; first | go_big_quiet_on | (apply Exists.intro; refine ⟨fun _ => ?_, ?_⟩; (focus ((go_at_call 51; exact past_same (haa.out _)))); go_big_quiet_on)))
    refine wpQuiet_nil ?_
    intro w1 hw'
    have hB1 := past_below hw'
    clear hw'
    obtain ⟨hC1, hF1⟩ := bcell hB1
    have hS1 := hB1.size
    (try simp at hS1)
    (try have hS1_w0 : w.heap.size < w1.heap.size := by omega)
    (try have hS1_w1 : w.heap.size + 1 < w1.heap.size := by omega)
    (try have hS1_w2 : w.heap.size + 1 + 1 < w1.heap.size := by omega)
    (try have hS1_w3 : w.heap.size + 1 + 1 + 1 < w1.heap.size := by omega)
    (try have hS1_w4 : w.heap.size + 1 + 1 + 1 + 1 < w1.heap.size := by omega)
    go_wp2_with fail
    go_ret
    refine ⟨ret_bool ?_, ?_⟩
    · go_light
      simp only [decide_eq_true_eq, decide_eq_false_iff_not] at h1 h2 h3
      (first | (symm; apply decide_eq_true; omega) | (symm; apply decide_eq_false; omega) | (rw [decide_eq_decide]; omega) | (symm; simp only [Bool.and_eq_false_iff, decide_eq_false_iff_not]; omega) | (symm; simp only [Bool.and_eq_true, decide_eq_true_eq]; omega) | (rw [Bool.eq_iff_iff]; simp only [Bool.and_eq_true, decide_eq_true_eq]; omega))
    · repeat (first | with_reducible exact Below.refl _ _ | with_reducible assumption | ((with_reducible refine blA ?_ ?_); (focus (first | omega | (simp <;> omega)))) | (with_reducible refine blD ?_) | (with_reducible refine blN ?_) | ((with_reducible refine blS ?_ ?_); (focus (first | omega | (simp <;> omega)))) | ((with_reducible refine blT (by assumption) ?_ ?_); (focus (first | omega | (simp <;> omega)))))
theorem cyIs_any (r d a b c : Int) (w : World) (hg : Gd r d (a, b, c)) : Calls Try.prog 94 #[.agg #[.int .i64 a, .int .i64 b, .int .i64 c]] w fun en w' => en = .returned (.bool (cyB r (a, b, c))) ∧ Below w.heap.size w w' := by
  have hdd : Hid (∀ w0, Calls Try.prog 74 #[.agg #[.int .i64 a, .int .i64 b, .int .i64 c]] w0 fun en w' => en = .returned (.int .i64 d) ∧ Below w0.heap.size w0 w') := Lib.hid fun w0 => by have h := foDisc_any a b c w0; rwa [hg.dw] at h
  obtain ⟨d0, d1⟩ := hg.d5
  have hrr : Hid (∀ w0, Calls Try.prog 106 #[.int .i64 d] w0 fun en w' => en = .returned (.int .i64 r) ∧ w0 = w') := Lib.hid fun w0 => by have h := nuRoot_any d w0 d0 (by omega); rwa [hg.sq] at h
  obtain ⟨a1, a2⟩ := hg.a
  obtain ⟨b1, b2⟩ := hg.b
  have r0 := hg.rt.r0
  have r31 := hg.r31
  simp only at a1 a2 b1 b2
  have hJ : J64 a := ⟨by omega, by omega⟩
  have haa : Hid (∀ w0, Calls Try.prog 107 #[.int .i64 a] w0 fun en w' => en = .returned (.int .i64 (a.natAbs : Int)) ∧ w0 = w') := Lib.hid fun w0 => l1Abs_any a w0 hJ
  have hK : Hid (cyB r (a, b, c) = decide (0 < b ∧ b ≤ r ∧ r - b < 2 * (a.natAbs : Int) ∧ 2 * (a.natAbs : Int) ≤ r + b)) := Lib.hid rfl
  have hA0 : 0 ≤ (a.natAbs : Int) ∧ (a.natAbs : Int) ≤ 1000000 := by omega
  generalize (a.natAbs : Int) = A at *
  obtain ⟨A0, A1⟩ := hA0
  rw [hK.out]
  clear hK hg hJ
  have hw1 : wrap64 (2 * A) = 2 * A := by unfold wrap64; omega
  have hw2 : wrap64 (r - b) = r - b := by unfold wrap64; omega
  have hw3 : wrap64 (r + b) = r + b := by unfold wrap64; omega
  go_enter Try.func94, Try.ntmps94
  go_wp2_with (first | (go_at_call 74; refine (hdd.out _).mono ?_; rintro e w' ⟨rfl, hB⟩; obtain ⟨hC, hF⟩ := bcell hB; have hS := hB.size; (try simp at hS); (try have hSl := Nat.lt_of_succ_le hS); (try have hS0 : w.heap.size < w'.heap.size := by omega); (try have hS1 : w.heap.size + 1 < w'.heap.size := by omega); (try have hS2 : w.heap.size + 1 + 1 < w'.heap.size := by omega); (try have hS3 : w.heap.size + 1 + 1 + 1 < w'.heap.size := by omega)) | (go_at_call 106; refine (hrr.out _).mono ?_; rintro e w' ⟨rfl, rfl⟩) | (go_at_call 107; refine (haa.out _).mono ?_; rintro e w' ⟨rfl, rfl⟩))
  all_goals
    go_ret
    refine ⟨ret_bool ?_, ?_⟩
    · go_light
      (first | (symm; apply decide_eq_true; omega) | (symm; apply decide_eq_false; omega) | (rw [decide_eq_decide]; omega) | (symm; simp only [Bool.and_eq_false_iff, decide_eq_false_iff_not]; omega) | (symm; simp only [Bool.and_eq_true, decide_eq_true_eq]; omega) | (rw [Bool.eq_iff_iff]; simp only [Bool.and_eq_true, decide_eq_true_eq]; omega))
    · repeat (first | with_reducible exact Below.refl _ _ | with_reducible assumption | ((with_reducible refine blA ?_ ?_); (focus (first | omega | (simp <;> omega)))) | (with_reducible refine blD ?_) | (with_reducible refine blN ?_) | ((with_reducible refine blS ?_ ?_); (focus (first | omega | (simp <;> omega)))) | ((with_reducible refine blT (by assumption) ?_ ?_); (focus (first | omega | (simp <;> omega)))))
set_option maxHeartbeats 20000000 in
/-- The neighbour, and the matrix that makes it. -/
theorem neighbour_any (r d a b c : Int) (w : World) (hg : Gd r d (a, b, c)) :
    Calls Try.prog 68 #[.agg #[.int .i64 a, .int .i64 b, .int .i64 c]] w fun en w' => en = .returned (.tuple #[.agg #[.int .i64 ((nbg r (a, b, c)).1), .int .i64 ((nbg r (a, b, c)).2.1), .int .i64 ((nbg r (a, b, c)).2.2)], .agg #[.int .i64 ((nmg r (a, b, c)).1), .int .i64 ((nmg r (a, b, c)).2.1), .int .i64 ((nmg r (a, b, c)).2.2.1), .int .i64 ((nmg r (a, b, c)).2.2.2)]]) ∧ Below w.heap.size w w' := by
  have hdd : Hid (∀ w0, Calls Try.prog 111 #[.agg #[.int .i64 a, .int .i64 b, .int .i64 c]] w0 fun en w' => en = .returned (.int .i64 d) ∧ Below w0.heap.size w0 w') := Lib.hid fun w0 => by have h := disc_any a b c w0; rwa [hg.dw] at h
  obtain ⟨d0, d1⟩ := hg.d5
  have hrr : Hid (∀ w0, Calls Try.prog 109 #[.int .i64 d] w0 fun en w' => en = .returned (.int .i64 r) ∧ w0 = w') := Lib.hid fun w0 => by have h := root_any d w0 d0 (by omega); rwa [hg.sq] at h
  obtain ⟨b1, b2⟩ := hg.b
  obtain ⟨c1, c2⟩ := hg.c
  have r0 := hg.rt.r0
  have r31 := hg.r31
  simp only at b1 b2 c1 c2
  have hJ : J64 c := ⟨by omega, by omega⟩
  have haa : Hid (∀ w0, Calls Try.prog 51 #[.int .i64 c] w0 fun en w' => en = .returned (.int .i64 (c.natAbs : Int)) ∧ w0 = w') := Lib.hid fun w0 => abs_nat c w0 hJ
  obtain ⟨t, B, C, S, e1, e2, c0, ht, hB, h4, h2, ⟨B1, B2⟩, ⟨C1, C2⟩, ⟨S1, S2⟩, t0, t1, -, -⟩ := nbg_vals hg
  rw [e1, e2]
  have hA0 : 1 ≤ (c.natAbs : Int) ∧ (c.natAbs : Int) ≤ 1000000 := by omega
  generalize (c.natAbs : Int) = D at *
  obtain ⟨D0, D1⟩ := hA0
  have hI : I64 (t + b) := ⟨by omega, by omega⟩
  have hmm : Hid (∀ w0, Calls Try.prog 101 #[.int .i64 (t + b), .int .i64 (2 * D)] w0 fun en w' => en = .returned (.int .i64 (t - B)) ∧ w0 = w') := Lib.hid fun w0 => by
    have h := mod_any (t + b) (2 * D) w0 hI (by omega) (by omega)
    rwa [show (t + b) % (2 * D) = t - B by omega] at h
  obtain ⟨m1, m2⟩ := mul_bd (show Bd 1000000 B from ⟨B1, B2⟩) (show Bd 1000000 B from ⟨B1, B2⟩) (show (1000000 : Int) * 1000000 ≤ 1000000000000 by decide)
  have hw1 : wrap64 (2 * D) = 2 * D := by unfold wrap64; omega
  have hw2 : wrap64 (t + b) = t + b := by unfold wrap64; omega
  have hw3 : wrap64 (t - (t - B)) = B := by unfold wrap64; omega
  have hw9 : t - (t - B) = B := by omega
  have hw4 : wrap64 (B * B) = B * B := by unfold wrap64; omega
  have hw5 : wrap64 (B * B - d) = B * B - d := by unfold wrap64; omega
  have hw6 : wrap64 (4 * c) = 4 * c := by unfold wrap64; omega
  have hw7 : wrap64 (b + B) = b + B := by unfold wrap64; omega
  have hw8 : wrap64 (2 * c) = 2 * c := by unfold wrap64; omega
  have hq1 : (B * B - d).tdiv (4 * c) = C := by rw [h4]; exact Int.mul_tdiv_cancel_left _ (by omega)
  have hq2 : (b + B).tdiv (2 * c) = S := by rw [h2]; exact Int.mul_tdiv_cancel_left _ (by omega)
  have hz1 : ¬ 4 * c = 0 := by omega
  have hz2 : ¬ 2 * c = 0 := by omega
  clear h4 h2 e1 e2 hI hJ hB
  by_cases hcr : D ≤ r
  · rw [if_pos hcr] at ht
    subst ht
    go_enter Try.func68, Try.ntmps68
    go_wp2_with fail
    refine (hdd.out _).mono ?_
    rintro e1 w1 ⟨rfl, hB1⟩
    obtain ⟨hC1, hF1⟩ := bcell hB1
    have hS1 := hB1.size
    (try simp at hS1)
    (try have hS1_w0 : w.heap.size < w1.heap.size := by omega)
    (try have hS1_w1 : w.heap.size + 1 < w1.heap.size := by omega)
    (try have hS1_w2 : w.heap.size + 1 + 1 < w1.heap.size := by omega)
    (try have hS1_w3 : w.heap.size + 1 + 1 + 1 < w1.heap.size := by omega)
    (try have hS1_w4 : w.heap.size + 1 + 1 + 1 + 1 < w1.heap.size := by omega)
    (try have hL1_w0 : w.heap.size ≤ w1.heap.size := by omega)
    (try have hL1_w1 : w.heap.size + 1 ≤ w1.heap.size := by omega)
    (try have hL1_w2 : w.heap.size + 1 + 1 ≤ w1.heap.size := by omega)
    (try have hL1_w3 : w.heap.size + 1 + 1 + 1 ≤ w1.heap.size := by omega)
    (try have hL1_w : w.heap.size ≤ w1.heap.size + 1 := by omega)
    (try have hM1_1 : w.heap.size < w1.heap.size + 1 := by omega)
    (try have hM1_2 : w.heap.size < w1.heap.size + 1 + 1 := by omega)
    (try have hM1_3 : w.heap.size < w1.heap.size + 1 + 1 + 1 := by omega)
    go_wp2_with (first | (go_at_call 109; refine (hrr.out _).mono ?_; rintro e w' ⟨rfl, rfl⟩) | (go_at_call 51; refine (haa.out _).mono ?_; rintro e w' ⟨rfl, rfl⟩) | (go_at_call 101; refine (hmm.out _).mono ?_; rintro e w' ⟨rfl, rfl⟩))
    clear hdd hrr haa hmm
    go_region
    all_goals
      go_wp2_with fail
      refine bodyPost_ret (v := .tuple #[.agg #[.int .i64 c, .int .i64 B, .int .i64 C], .agg #[.int .i64 0, .int .i64 (-1), .int .i64 1, .int .i64 S]]) (by go_light; simp [results, Try.results68, go_sem, *]) rfl ⟨rfl, ?_⟩
      repeat (first | with_reducible exact Below.refl _ _ | with_reducible assumption | ((with_reducible refine blA ?_ ?_); (focus (first | omega | (simp <;> omega)))) | (with_reducible refine blD ?_) | (with_reducible refine blN ?_) | ((with_reducible refine blS ?_ ?_); (focus (first | omega | (simp <;> omega)))) | ((with_reducible refine blT (by assumption) ?_ ?_); (focus (first | omega | (simp <;> omega)))))
  · rw [if_neg hcr] at ht
    subst ht
    go_enter Try.func68, Try.ntmps68
    go_wp2_with fail
    refine (hdd.out _).mono ?_
    rintro e2 w2 ⟨rfl, hB2⟩
    obtain ⟨hC2, hF2⟩ := bcell hB2
    have hS2 := hB2.size
    (try simp at hS2)
    (try have hS2_w0 : w.heap.size < w2.heap.size := by omega)
    (try have hS2_w1 : w.heap.size + 1 < w2.heap.size := by omega)
    (try have hS2_w2 : w.heap.size + 1 + 1 < w2.heap.size := by omega)
    (try have hS2_w3 : w.heap.size + 1 + 1 + 1 < w2.heap.size := by omega)
    (try have hS2_w4 : w.heap.size + 1 + 1 + 1 + 1 < w2.heap.size := by omega)
    (try have hL2_w0 : w.heap.size ≤ w2.heap.size := by omega)
    (try have hL2_w1 : w.heap.size + 1 ≤ w2.heap.size := by omega)
    (try have hL2_w2 : w.heap.size + 1 + 1 ≤ w2.heap.size := by omega)
    (try have hL2_w3 : w.heap.size + 1 + 1 + 1 ≤ w2.heap.size := by omega)
    (try have hL2_w : w.heap.size ≤ w2.heap.size + 1 := by omega)
    (try have hM2_1 : w.heap.size < w2.heap.size + 1 := by omega)
    (try have hM2_2 : w.heap.size < w2.heap.size + 1 + 1 := by omega)
    (try have hM2_3 : w.heap.size < w2.heap.size + 1 + 1 + 1 := by omega)
    (try have hN2_1_00 : w1.heap.size < w2.heap.size := by omega)
    (try have hN2_1_01 : w1.heap.size < w2.heap.size + 1 := by omega)
    (try have hN2_1_02 : w1.heap.size < w2.heap.size + 1 + 1 := by omega)
    (try have hN2_1_10 : w1.heap.size + 1 < w2.heap.size := by omega)
    (try have hN2_1_11 : w1.heap.size + 1 < w2.heap.size + 1 := by omega)
    (try have hN2_1_12 : w1.heap.size + 1 < w2.heap.size + 1 + 1 := by omega)
    (try have hN2_1_20 : w1.heap.size + 1 + 1 < w2.heap.size := by omega)
    (try have hN2_1_21 : w1.heap.size + 1 + 1 < w2.heap.size + 1 := by omega)
    (try have hN2_1_22 : w1.heap.size + 1 + 1 < w2.heap.size + 1 + 1 := by omega)
    (try have hL2_1 : w1.heap.size ≤ w2.heap.size := by omega)
    (try have hS2_1 : w1.heap.size < w2.heap.size := by omega)
    (try have hS2_1' : w1.heap.size + 1 < w2.heap.size := by omega)
    go_wp2_with (first | (go_at_call 109; refine (hrr.out _).mono ?_; rintro e w' ⟨rfl, rfl⟩) | (go_at_call 51; refine (haa.out _).mono ?_; rintro e w' ⟨rfl, rfl⟩) | (go_at_call 101; refine (hmm.out _).mono ?_; rintro e w' ⟨rfl, rfl⟩))
    clear hdd hrr haa hmm
    go_region
    all_goals
      go_wp2_with fail
      refine bodyPost_ret (v := .tuple #[.agg #[.int .i64 c, .int .i64 B, .int .i64 C], .agg #[.int .i64 0, .int .i64 (-1), .int .i64 1, .int .i64 S]]) (by go_light; simp [results, Try.results68, go_sem, *]) rfl ⟨rfl, ?_⟩
      repeat (first | with_reducible exact Below.refl _ _ | with_reducible assumption | ((with_reducible refine blA ?_ ?_); (focus (first | omega | (simp <;> omega)))) | (with_reducible refine blD ?_) | (with_reducible refine blN ?_) | ((with_reducible refine blS ?_ ?_); (focus (first | omega | (simp <;> omega)))) | ((with_reducible refine blT (by assumption) ?_ ?_); (focus (first | omega | (simp <;> omega)))))
set_option maxHeartbeats 2000000 in
theorem cyMove_any (r d a b c : Int) (w : World) (hg : Gd r d (a, b, c)) :
    Calls Try.prog 78 #[.agg #[.int .i64 a, .int .i64 b, .int .i64 c]] w fun en w' => en = .returned (.agg #[.int .i64 ((nmg r (a, b, c)).1), .int .i64 ((nmg r (a, b, c)).2.1), .int .i64 ((nmg r (a, b, c)).2.2.1), .int .i64 ((nmg r (a, b, c)).2.2.2)]) ∧ Below w.heap.size w w' := by
  have hdd : Hid (∀ w0, Calls Try.prog 74 #[.agg #[.int .i64 a, .int .i64 b, .int .i64 c]] w0 fun en w' => en = .returned (.int .i64 d) ∧ Below w0.heap.size w0 w') := Lib.hid fun w0 => by have h := foDisc_any a b c w0; rwa [hg.dw] at h
  obtain ⟨d0, d1⟩ := hg.d5
  have hrr : Hid (∀ w0, Calls Try.prog 106 #[.int .i64 d] w0 fun en w' => en = .returned (.int .i64 r) ∧ w0 = w') := Lib.hid fun w0 => by have h := nuRoot_any d w0 d0 (by omega); rwa [hg.sq] at h
  obtain ⟨b1, b2⟩ := hg.b
  obtain ⟨c1, c2⟩ := hg.c
  have r0 := hg.rt.r0
  have r31 := hg.r31
  simp only at b1 b2 c1 c2
  have hJ : J64 c := ⟨by omega, by omega⟩
  have haa : Hid (∀ w0, Calls Try.prog 107 #[.int .i64 c] w0 fun en w' => en = .returned (.int .i64 (c.natAbs : Int)) ∧ w0 = w') := Lib.hid fun w0 => l1Abs_any c w0 hJ
  obtain ⟨t, B, C, S, e1, e2, c0, ht, hB, h4, h2, ⟨B1, B2⟩, ⟨C1, C2⟩, ⟨S1, S2⟩, t0, t1, -, -⟩ := nbg_vals hg
  rw [e2]
  have hA0 : 1 ≤ (c.natAbs : Int) ∧ (c.natAbs : Int) ≤ 1000000 := by omega
  generalize (c.natAbs : Int) = D at *
  obtain ⟨D0, D1⟩ := hA0
  have hI : I64 (t + b) := ⟨by omega, by omega⟩
  have hmm : Hid (∀ w0, Calls Try.prog 102 #[.int .i64 (t + b), .int .i64 (2 * D)] w0 fun en w' => en = .returned (.int .i64 (t - B)) ∧ w0 = w') := Lib.hid fun w0 => by
    have h := nuMod_any (t + b) (2 * D) w0 hI (by omega) (by omega)
    rwa [show (t + b) % (2 * D) = t - B by omega] at h
  have hw1 : wrap64 (2 * D) = 2 * D := by unfold wrap64; omega
  have hw2 : wrap64 (t + b) = t + b := by unfold wrap64; omega
  have hw3 : wrap64 (t - (t - B)) = B := by unfold wrap64; omega
  have hw9 : t - (t - B) = B := by omega
  have hw7 : wrap64 (b + B) = b + B := by unfold wrap64; omega
  have hw8 : wrap64 (2 * c) = 2 * c := by unfold wrap64; omega
  have hq2 : (b + B).tdiv (2 * c) = S := by rw [h2]; exact Int.mul_tdiv_cancel_left _ (by omega)
  have hz2 : ¬ 2 * c = 0 := by omega
  clear h4 h2 e1 e2 hI hJ hB
  by_cases hcr : r < D
  · have hcr' : ¬ D ≤ r := by omega
    rw [if_neg hcr'] at ht
    subst ht
    go_enter Try.func78, Try.ntmps78
    go_wp2_with fail
    refine (hdd.out _).mono ?_
    rintro e1 w1 ⟨rfl, hB1⟩
    obtain ⟨hC1, hF1⟩ := bcell hB1
    have hS1 := hB1.size
    (try simp at hS1)
    (try have hS1_w0 : w.heap.size < w1.heap.size := by omega)
    (try have hS1_w1 : w.heap.size + 1 < w1.heap.size := by omega)
    (try have hS1_w2 : w.heap.size + 1 + 1 < w1.heap.size := by omega)
    (try have hS1_w3 : w.heap.size + 1 + 1 + 1 < w1.heap.size := by omega)
    (try have hS1_w4 : w.heap.size + 1 + 1 + 1 + 1 < w1.heap.size := by omega)
    (try have hL1_w0 : w.heap.size ≤ w1.heap.size := by omega)
    (try have hL1_w1 : w.heap.size + 1 ≤ w1.heap.size := by omega)
    (try have hL1_w2 : w.heap.size + 1 + 1 ≤ w1.heap.size := by omega)
    (try have hL1_w3 : w.heap.size + 1 + 1 + 1 ≤ w1.heap.size := by omega)
    (try have hL1_w : w.heap.size ≤ w1.heap.size + 1 := by omega)
    (try have hM1_1 : w.heap.size < w1.heap.size + 1 := by omega)
    (try have hM1_2 : w.heap.size < w1.heap.size + 1 + 1 := by omega)
    (try have hM1_3 : w.heap.size < w1.heap.size + 1 + 1 + 1 := by omega)
    go_wp2_with (first | (go_at_call 106; refine (hrr.out _).mono ?_; rintro e w' ⟨rfl, rfl⟩) | (go_at_call 107; refine (haa.out _).mono ?_; rintro e w' ⟨rfl, rfl⟩) | (go_at_call 102; refine (hmm.out _).mono ?_; rintro e w' ⟨rfl, rfl⟩))
    (refine bodyPost_ret (v := .agg #[.int .i64 0, .int .i64 (-1), .int .i64 1, .int .i64 S]) ?_ rfl ⟨?_, ?_⟩; (focus (go_light; first | (simp [results, Try.results78, go_sem, *]; done) | (simp (disch := first | omega | (simp <;> omega) | (refine isSome_of ?_ ?_; (focus ((repeat (first | ((with_reducible refine (cell_alloc_old _ _ _ _ ?_).trans ?_); (focus (first | omega | (simp <;> omega)))) | ((with_reducible refine (bG (by assumption) ?_).trans ?_); (focus (first | omega | (simp <;> omega)))))); exact rfl)); simp [go_sem]) | fail) [results, Try.results78, go_sem, *]; done))); (focus (rfl)); repeat (first | with_reducible exact Below.refl _ _ | with_reducible assumption | ((with_reducible refine blA ?_ ?_); (focus (first | omega | (simp <;> omega)))) | (with_reducible refine blD ?_) | (with_reducible refine blN ?_) | ((with_reducible refine blS ?_ ?_); (focus (first | omega | (simp <;> omega)))) | ((with_reducible refine blT (by assumption) ?_ ?_); (focus (first | omega | (simp <;> omega))))))
  · have hcr' : D ≤ r := by omega
    rw [if_pos hcr'] at ht
    subst ht
    go_enter Try.func78, Try.ntmps78
    go_wp2_with fail
    refine (hdd.out _).mono ?_
    rintro e2 w2 ⟨rfl, hB2⟩
    obtain ⟨hC2, hF2⟩ := bcell hB2
    have hS2 := hB2.size
    (try simp at hS2)
    (try have hS2_w0 : w.heap.size < w2.heap.size := by omega)
    (try have hS2_w1 : w.heap.size + 1 < w2.heap.size := by omega)
    (try have hS2_w2 : w.heap.size + 1 + 1 < w2.heap.size := by omega)
    (try have hS2_w3 : w.heap.size + 1 + 1 + 1 < w2.heap.size := by omega)
    (try have hS2_w4 : w.heap.size + 1 + 1 + 1 + 1 < w2.heap.size := by omega)
    (try have hL2_w0 : w.heap.size ≤ w2.heap.size := by omega)
    (try have hL2_w1 : w.heap.size + 1 ≤ w2.heap.size := by omega)
    (try have hL2_w2 : w.heap.size + 1 + 1 ≤ w2.heap.size := by omega)
    (try have hL2_w3 : w.heap.size + 1 + 1 + 1 ≤ w2.heap.size := by omega)
    (try have hL2_w : w.heap.size ≤ w2.heap.size + 1 := by omega)
    (try have hM2_1 : w.heap.size < w2.heap.size + 1 := by omega)
    (try have hM2_2 : w.heap.size < w2.heap.size + 1 + 1 := by omega)
    (try have hM2_3 : w.heap.size < w2.heap.size + 1 + 1 + 1 := by omega)
    (try have hN2_1_00 : w1.heap.size < w2.heap.size := by omega)
    (try have hN2_1_01 : w1.heap.size < w2.heap.size + 1 := by omega)
    (try have hN2_1_02 : w1.heap.size < w2.heap.size + 1 + 1 := by omega)
    (try have hN2_1_10 : w1.heap.size + 1 < w2.heap.size := by omega)
    (try have hN2_1_11 : w1.heap.size + 1 < w2.heap.size + 1 := by omega)
    (try have hN2_1_12 : w1.heap.size + 1 < w2.heap.size + 1 + 1 := by omega)
    (try have hN2_1_20 : w1.heap.size + 1 + 1 < w2.heap.size := by omega)
    (try have hN2_1_21 : w1.heap.size + 1 + 1 < w2.heap.size + 1 := by omega)
    (try have hN2_1_22 : w1.heap.size + 1 + 1 < w2.heap.size + 1 + 1 := by omega)
    (try have hL2_1 : w1.heap.size ≤ w2.heap.size := by omega)
    (try have hS2_1 : w1.heap.size < w2.heap.size := by omega)
    (try have hS2_1' : w1.heap.size + 1 < w2.heap.size := by omega)
    go_wp2_with (first | (go_at_call 106; refine (hrr.out _).mono ?_; rintro e w' ⟨rfl, rfl⟩) | (go_at_call 107; refine (haa.out _).mono ?_; rintro e w' ⟨rfl, rfl⟩) | (go_at_call 102; refine (hmm.out _).mono ?_; rintro e w' ⟨rfl, rfl⟩))
    (refine bodyPost_ret (v := .agg #[.int .i64 0, .int .i64 (-1), .int .i64 1, .int .i64 S]) ?_ rfl ⟨?_, ?_⟩; (focus (go_light; first | (simp [results, Try.results78, go_sem, *]; done) | (simp (disch := first | omega | (simp <;> omega) | (refine isSome_of ?_ ?_; (focus ((repeat (first | ((with_reducible refine (cell_alloc_old _ _ _ _ ?_).trans ?_); (focus (first | omega | (simp <;> omega)))) | ((with_reducible refine (bG (by assumption) ?_).trans ?_); (focus (first | omega | (simp <;> omega)))))); exact rfl)); simp [go_sem]) | fail) [results, Try.results78, go_sem, *]; done))); (focus (rfl)); repeat (first | with_reducible exact Below.refl _ _ | with_reducible assumption | ((with_reducible refine blA ?_ ?_); (focus (first | omega | (simp <;> omega)))) | (with_reducible refine blD ?_) | (with_reducible refine blN ?_) | ((with_reducible refine blS ?_ ?_); (focus (first | omega | (simp <;> omega)))) | ((with_reducible refine blT (by assumption) ?_ ?_); (focus (first | omega | (simp <;> omega))))))
end Go.Proofs.Ytemnkfigjpphgaa
