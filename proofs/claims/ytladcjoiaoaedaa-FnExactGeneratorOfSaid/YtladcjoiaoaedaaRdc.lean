/-
  The reference's reduction of a definite form: what it keeps.
-/
import Derived.Test.YtladcjoiaoaedaaMix
import Derived.Test.YtladcjoiaoaedaaTail
import Derived.Test.YtladcjoiaoaedaaBlk
import Derived.Test.YtladcjoiaoaedaaDef
import Derived.Test.YtladcjoiaoaedaaVp
import Derived.Test.YtladcjoiaoaedaaDisc
import Derived.Test.YtladcjoiaoaedaaGnm
namespace Go.Proofs.Ytladcjoiaoaedaa
open Go.RowKit
attribute [local simp, local go_sem] past_cell past_frozen past_tape
theorem foMulR_any (a b c d p q r s : Int) (w : World) :
    Calls Try.prog 120 #[.agg #[.int .i64 a, .int .i64 b, .int .i64 c, .int .i64 d], .agg #[.int .i64 p, .int .i64 q, .int .i64 r, .int .i64 s]] w fun en w' => en = .returned (.agg #[.int .i64 (wrap64 (wrap64 (a * p) + wrap64 (b * r))), .int .i64 (wrap64 (wrap64 (a * q) + wrap64 (b * s))), .int .i64 (wrap64 (wrap64 (c * p) + wrap64 (d * r))), .int .i64 (wrap64 (wrap64 (c * q) + wrap64 (d * s)))]) ∧ Below w.heap.size w w' := by
  go_enter Try.func120, Try.ntmps120
  go_wp2
  refine bodyPost_ret (v := .agg #[.int .i64 (wrap64 (wrap64 (a * p) + wrap64 (b * r))), .int .i64 (wrap64 (wrap64 (a * q) + wrap64 (b * s))), .int .i64 (wrap64 (wrap64 (c * p) + wrap64 (d * r))), .int .i64 (wrap64 (wrap64 (c * q) + wrap64 (d * s)))]) (by go_light; simp [results, Try.results120, go_sem, *]) rfl ⟨rfl, ?_⟩
  repeat (first | with_reducible exact Below.refl _ _ | with_reducible assumption | ((with_reducible refine blA ?_ ?_); (focus (first | omega | (simp <;> omega)))) | (with_reducible refine blD ?_) | (with_reducible refine blN ?_) | ((with_reducible refine blS ?_ ?_); (focus (first | omega | (simp <;> omega)))) | ((with_reducible refine blT (by assumption) ?_ ?_); (focus (first | omega | (simp <;> omega)))))
def redC (a b c : Int) : Bool := decide (-a < b ∧ b ≤ a ∧ (a < c ∨ (a = c ∧ 0 ≤ b)))
set_option maxHeartbeats 1000000 in
theorem reIsR_any (a b c : Int) (w : World) (ha : J64 a) : Calls Try.prog 117 #[.agg #[.int .i64 a, .int .i64 b, .int .i64 c]] w fun en w' => en = .returned (.bool (redC a b c)) ∧ Below w.heap.size w w' := by
  obtain ⟨a1, a2⟩ := ha
  have hw : wrap64 (-a) = -a := by unfold wrap64; omega
  go_enter Try.func117, Try.ntmps117
  go_wp2
  all_goals
    go_ret
    refine ⟨ret_bool ?_, by repeat (first | with_reducible exact Below.refl _ _ | with_reducible assumption | ((with_reducible refine blA ?_ ?_); (focus (first | omega | (simp <;> omega)))) | (with_reducible refine blD ?_) | (with_reducible refine blN ?_) | ((with_reducible refine blS ?_ ?_); (focus (first | omega | (simp <;> omega)))) | ((with_reducible refine blT (by assumption) ?_ ?_); (focus (first | omega | (simp <;> omega)))))⟩
    unfold redC
    go_light
    (first | (symm; apply decide_eq_true; omega) | (symm; apply decide_eq_false; omega) | (rw [decide_eq_decide]; omega))
/-- Which translation makes a form normal. -/
def nT (a b : Int) : Int := (a - b) / (2 * a)
theorem reNormal_any (a b c : Int) (w : World) (ha : 1 ≤ a ∧ a ≤ 1000000) (hb : Bd 1000000 b) : Calls Try.prog 133 #[.agg #[.int .i64 a, .int .i64 b, .int .i64 c]] w fun en w' => en = .returned (.int .i64 (nT a b)) ∧ Below w.heap.size w w' := by
  obtain ⟨a1, a2⟩ := ha
  obtain ⟨b1, b2⟩ := hb
  have hw1 : wrap64 (2 * a) = 2 * a := by unfold wrap64; omega
  have hw2 : wrap64 (a - b) = a - b := by unfold wrap64; omega
  have hI : I64 (a - b) := ⟨by omega, by omega⟩
  have hm0 := Int.emod_nonneg (a - b) (show 2 * a ≠ 0 by omega)
  have hm1 := Int.emod_lt_of_pos (a - b) (show 0 < 2 * a by omega)
  have hq := Int.mul_ediv_add_emod (a - b) (2 * a)
  have hw3 : wrap64 (a - b - (a - b) % (2 * a)) = a - b - (a - b) % (2 * a) := by unfold wrap64; omega
  have hdiv : Hid ((a - b - (a - b) % (2 * a)).tdiv (2 * a) = nT a b) := by
    show _ = _
    unfold nT
    rw [show a - b - (a - b) % (2 * a) = 2 * a * ((a - b) / (2 * a)) by omega, Int.mul_tdiv_cancel_left _ (by omega)]
  have hn1 : ¬ 2 * a = 0 := by omega
  have hn2 : ¬ 2 * a = -1 := by omega
  clear hq
  go_enter Try.func133, Try.ntmps133
  go_wp2_with fail
  refine wp_region_past_tail 19 (by kernel_rfl) (by kernel_rfl) ?_
  simp only [List.take_succ_cons, List.take_zero, List.drop_succ_cons, List.drop_zero]
  repeat (first | go_big_quiet_skip | (go_big_quiet_want; go_big_quiet_op; first | go_big_quiet_on | (apply Exists.intro; refine ⟨fun _ => ?_, ?_⟩; (focus ((go_at_call 44; exact past_same (nuMod_any (a - b) (2 * a) _ hI (by omega) (by omega))))); go_big_quiet_on)))
  refine wpQuiet_nil ?_
  intro w1 hw'
  have hB1 := past_below hw'
  clear hw'
  obtain ⟨hC1, hF1⟩ := bcell hB1
  have hS1 := hB1.size
  (try simp at hS1)
  (try have hS1_w0 : w.heap.size < w1.heap.size := by omega)
  (try have hS1_w1 : w.heap.size + 1 < w1.heap.size := by omega)
  (try have hS1_w2 : w.heap.size + 1 + 1 < w1.heap.size := by omega)
  (try have hS1_w3 : w.heap.size + 1 + 1 + 1 < w1.heap.size := by omega)
  (try have hS1_w4 : w.heap.size + 1 + 1 + 1 + 1 < w1.heap.size := by omega)
  go_wp2_with fail
  all_goals
    refine bodyPost_ret (v := .int .i64 (nT a b)) (by go_light; simp [results, Try.results133, go_sem, hdiv.out]) rfl ⟨rfl, ?_⟩
    repeat (first | with_reducible exact Below.refl _ _ | with_reducible assumption | ((with_reducible refine blA ?_ ?_); (focus (first | omega | (simp <;> omega)))) | (with_reducible refine blD ?_) | (with_reducible refine blN ?_) | ((with_reducible refine blS ?_ ?_); (focus (first | omega | (simp <;> omega)))) | ((with_reducible refine blT (by assumption) ?_ ?_); (focus (first | omega | (simp <;> omega)))))
/-- The matrix of a step. -/
def mvM (a b c : Int) : Int × Int × Int × Int := if nT a b ≠ 0 then (1, nT a b, 0, 1) else if redC a b c = true then (1, 0, 0, 1) else (0, -1, 1, 0)
set_option maxHeartbeats 1000000 in
theorem reMove_any (a b c : Int) (w : World) (ha : 1 ≤ a ∧ a ≤ 1000000) (hb : Bd 1000000 b) : Calls Try.prog 118 #[.agg #[.int .i64 a, .int .i64 b, .int .i64 c]] w fun en w' => en = .returned (.agg #[.int .i64 ((mvM a b c).1), .int .i64 ((mvM a b c).2.1), .int .i64 ((mvM a b c).2.2.1), .int .i64 ((mvM a b c).2.2.2)]) ∧ Below w.heap.size w w' := by
  have hJ : J64 a := ⟨by omega, by omega⟩
  by_cases ht : nT a b = 0
  · have hn : Hid (∀ w1, Calls Try.prog 133 #[.agg #[.int .i64 a, .int .i64 b, .int .i64 c]] w1 fun en w' => en = .returned (.int .i64 0) ∧ Below w1.heap.size w1 w') := Lib.hid fun w1 => by rw [← ht]; exact reNormal_any a b c w1 ha hb
    by_cases hr : redC a b c = true
    · have hi : Hid (∀ w1, Calls Try.prog 117 #[.agg #[.int .i64 a, .int .i64 b, .int .i64 c]] w1 fun en w' => en = .returned (.bool true) ∧ Below w1.heap.size w1 w') := Lib.hid fun w1 => by rw [← hr]; exact reIsR_any a b c w1 hJ
      have hv : mvM a b c = (1, 0, 0, 1) := by unfold mvM; rw [if_neg (by omega), if_pos hr]
      rw [hv]
      clear hv hr ht hb
      go_enter Try.func118, Try.ntmps118
      go_wp2_with (first | (go_at_call 133; refine (hn.out _).mono ?_; rintro e w' ⟨rfl, hB⟩; obtain ⟨hC, hF⟩ := bcell hB; have hS := hB.size; (try simp at hS); (try have hSl := Nat.lt_of_succ_le hS); (try have hS0 : w.heap.size < w'.heap.size := by omega); (try have hS1 : w.heap.size + 1 < w'.heap.size := by omega); (try have hS2 : w.heap.size + 1 + 1 < w'.heap.size := by omega); (try have hS3 : w.heap.size + 1 + 1 + 1 < w'.heap.size := by omega)) | (go_at_call 117; refine (hi.out _).mono ?_; rintro e w' ⟨rfl, hB⟩; obtain ⟨hC, hF⟩ := bcell hB; have hS := hB.size; (try simp at hS); (try have hSl := Nat.lt_of_succ_le hS); (try have hS0 : w.heap.size < w'.heap.size := by omega); (try have hS1 : w.heap.size + 1 < w'.heap.size := by omega); (try have hS2 : w.heap.size + 1 + 1 < w'.heap.size := by omega); (try have hS3 : w.heap.size + 1 + 1 + 1 < w'.heap.size := by omega)))
      (refine bodyPost_ret (v := .agg #[.int .i64 1, .int .i64 0, .int .i64 0, .int .i64 1]) ?_ rfl ⟨?_, ?_⟩; (focus (go_light; first | (simp [results, Try.results118, go_sem, *]; done) | (simp (disch := first | omega | (simp <;> omega) | (refine isSome_of ?_ ?_; (focus ((repeat (first | ((with_reducible refine (cell_alloc_old _ _ _ _ ?_).trans ?_); (focus (first | omega | (simp <;> omega)))) | ((with_reducible refine (bG (by assumption) ?_).trans ?_); (focus (first | omega | (simp <;> omega)))))); exact rfl)); simp [go_sem]) | fail) [results, Try.results118, go_sem, *]; done))); (focus (rfl)); repeat (first | with_reducible exact Below.refl _ _ | with_reducible assumption | ((with_reducible refine blA ?_ ?_); (focus (first | omega | (simp <;> omega)))) | (with_reducible refine blD ?_) | (with_reducible refine blN ?_) | ((with_reducible refine blS ?_ ?_); (focus (first | omega | (simp <;> omega)))) | ((with_reducible refine blT (by assumption) ?_ ?_); (focus (first | omega | (simp <;> omega))))))
    · have hr' : redC a b c = false := by simpa using hr
      have hi : Hid (∀ w1, Calls Try.prog 117 #[.agg #[.int .i64 a, .int .i64 b, .int .i64 c]] w1 fun en w' => en = .returned (.bool false) ∧ Below w1.heap.size w1 w') := Lib.hid fun w1 => by rw [← hr']; exact reIsR_any a b c w1 hJ
      have hv : mvM a b c = (0, -1, 1, 0) := by unfold mvM; rw [if_neg (by omega), if_neg hr]
      rw [hv]
      clear hv hr hr' ht hb
      go_enter Try.func118, Try.ntmps118
      go_wp2_with (first | (go_at_call 133; refine (hn.out _).mono ?_; rintro e w' ⟨rfl, hB⟩; obtain ⟨hC, hF⟩ := bcell hB; have hS := hB.size; (try simp at hS); (try have hSl := Nat.lt_of_succ_le hS); (try have hS0 : w.heap.size < w'.heap.size := by omega); (try have hS1 : w.heap.size + 1 < w'.heap.size := by omega); (try have hS2 : w.heap.size + 1 + 1 < w'.heap.size := by omega); (try have hS3 : w.heap.size + 1 + 1 + 1 < w'.heap.size := by omega)) | (go_at_call 117; refine (hi.out _).mono ?_; rintro e w' ⟨rfl, hB⟩; obtain ⟨hC, hF⟩ := bcell hB; have hS := hB.size; (try simp at hS); (try have hSl := Nat.lt_of_succ_le hS); (try have hS0 : w.heap.size < w'.heap.size := by omega); (try have hS1 : w.heap.size + 1 < w'.heap.size := by omega); (try have hS2 : w.heap.size + 1 + 1 < w'.heap.size := by omega); (try have hS3 : w.heap.size + 1 + 1 + 1 < w'.heap.size := by omega)))
      (refine bodyPost_ret (v := .agg #[.int .i64 0, .int .i64 (-1), .int .i64 1, .int .i64 0]) ?_ rfl ⟨?_, ?_⟩; (focus (go_light; first | (simp [results, Try.results118, go_sem, *]; done) | (simp (disch := first | omega | (simp <;> omega) | (refine isSome_of ?_ ?_; (focus ((repeat (first | ((with_reducible refine (cell_alloc_old _ _ _ _ ?_).trans ?_); (focus (first | omega | (simp <;> omega)))) | ((with_reducible refine (bG (by assumption) ?_).trans ?_); (focus (first | omega | (simp <;> omega)))))); exact rfl)); simp [go_sem]) | fail) [results, Try.results118, go_sem, *]; done))); (focus (rfl)); repeat (first | with_reducible exact Below.refl _ _ | with_reducible assumption | ((with_reducible refine blA ?_ ?_); (focus (first | omega | (simp <;> omega)))) | (with_reducible refine blD ?_) | (with_reducible refine blN ?_) | ((with_reducible refine blS ?_ ?_); (focus (first | omega | (simp <;> omega)))) | ((with_reducible refine blT (by assumption) ?_ ?_); (focus (first | omega | (simp <;> omega))))))
  · obtain ⟨t, hte⟩ : ∃ t, nT a b = t := ⟨_, rfl⟩
    have hn : Hid (∀ w1, Calls Try.prog 133 #[.agg #[.int .i64 a, .int .i64 b, .int .i64 c]] w1 fun en w' => en = .returned (.int .i64 t) ∧ Below w1.heap.size w1 w') := Lib.hid fun w1 => by rw [← hte]; exact reNormal_any a b c w1 ha hb
    have hv : mvM a b c = (1, t, 0, 1) := by unfold mvM; rw [if_pos ht, hte]
    rw [hv]
    rw [hte] at ht
    clear hv hte hb
    go_enter Try.func118, Try.ntmps118
    go_wp2_with (first | (go_at_call 133; refine (hn.out _).mono ?_; rintro e w' ⟨rfl, hB⟩; obtain ⟨hC, hF⟩ := bcell hB; have hS := hB.size; (try simp at hS); (try have hSl := Nat.lt_of_succ_le hS); (try have hS0 : w.heap.size < w'.heap.size := by omega); (try have hS1 : w.heap.size + 1 < w'.heap.size := by omega); (try have hS2 : w.heap.size + 1 + 1 < w'.heap.size := by omega); (try have hS3 : w.heap.size + 1 + 1 + 1 < w'.heap.size := by omega)))
    (refine bodyPost_ret (v := .agg #[.int .i64 1, .int .i64 t, .int .i64 0, .int .i64 1]) ?_ rfl ⟨?_, ?_⟩; (focus (go_light; first | (simp [results, Try.results118, go_sem, *]; done) | (simp (disch := first | omega | (simp <;> omega) | (refine isSome_of ?_ ?_; (focus ((repeat (first | ((with_reducible refine (cell_alloc_old _ _ _ _ ?_).trans ?_); (focus (first | omega | (simp <;> omega)))) | ((with_reducible refine (bG (by assumption) ?_).trans ?_); (focus (first | omega | (simp <;> omega)))))); exact rfl)); simp [go_sem]) | fail) [results, Try.results118, go_sem, *]; done))); (focus (rfl)); repeat (first | with_reducible exact Below.refl _ _ | with_reducible assumption | ((with_reducible refine blA ?_ ?_); (focus (first | omega | (simp <;> omega)))) | (with_reducible refine blD ?_) | (with_reducible refine blN ?_) | ((with_reducible refine blS ?_ ?_); (focus (first | omega | (simp <;> omega)))) | ((with_reducible refine blT (by assumption) ?_ ?_); (focus (first | omega | (simp <;> omega))))))
/-- What the reduction keeps. -/
structure RI (d : Int) (n : Int → Prop) (a b c : Int) : Prop where
  a1 : 1 ≤ a
  a2 : a ≤ 20000
  bb : Bd 40000 b
  c1 : 1 ≤ c
  dd : b * b - 4 * a * c = d
  nn : ∀ k, Rep a b c k ↔ n k
theorem RI.c2 {d : Int} {n : Int → Prop} {a b c : Int} (h : RI d n a b c) (hd : -2000 ≤ d) : c ≤ 400001000 := by
  have h1 := h.dd
  obtain ⟨m1, m2⟩ := mul_bd h.bb h.bb (show (40000 : Int) * 40000 ≤ 1600000000 by decide)
  have h2 : (4 * c) ≤ 4 * a * c := by
    have := Int.mul_le_mul_of_nonneg_right (show 4 ≤ 4 * a by have := h.a1; omega) (show 0 ≤ c by have := h.c1; omega)
    exact this
  omega
/-- How far it still is. -/
def rMs (a b : Int) : Nat := (4 * a + (if nT a b = 0 then 0 else 2) + (if b < 0 then 1 else 0)).toNat
theorem nT_zero {a b : Int} (ha : 1 ≤ a) : nT a b = 0 ↔ (-a < b ∧ b ≤ a) := by
  unfold nT
  constructor
  · intro h
    have hq := Int.mul_ediv_add_emod (a - b) (2 * a)
    rw [h] at hq
    have hm0 := Int.emod_nonneg (a - b) (show 2 * a ≠ 0 by omega)
    have hm1 := Int.emod_lt_of_pos (a - b) (show 0 < 2 * a by omega)
    omega
  · rintro ⟨h1, h2⟩
    exact Int.ediv_eq_zero_of_lt (by omega) (by omega)
/-- The form after a step. -/
def stepF (a b c : Int) : Int × Int × Int := if nT a b ≠ 0 then (a, b + 2 * a * nT a b, a * nT a b * nT a b + b * nT a b + c) else (c, -b, a)
theorem RI.step {d : Int} {n : Int → Prop} {a b c : Int} (h : RI d n a b c) (hd : -2000 ≤ d) (hd3 : d ≤ -3) (hr : redC a b c = false) :
    RI d n (stepF a b c).1 (stepF a b c).2.1 (stepF a b c).2.2 ∧ rMs (stepF a b c).1 (stepF a b c).2.1 < rMs a b ∧
    valW a b c (mvM a b c).1 (mvM a b c).2.2.1 = (stepF a b c).1 ∧ polW a b c (mvM a b c).1 (mvM a b c).2.2.1 (mvM a b c).2.1 (mvM a b c).2.2.2 = (stepF a b c).2.1 ∧ valW a b c (mvM a b c).2.1 (mvM a b c).2.2.2 = (stepF a b c).2.2 := by
  have c2 := h.c2 hd
  obtain ⟨a1, a2, ⟨b1, b2⟩, c1, hdd, hn⟩ := h
  have hr' : ¬ (-a < b ∧ b ≤ a ∧ (a < c ∨ (a = c ∧ 0 ≤ b))) := of_decide_eq_false hr
  by_cases ht : nT a b = 0
  · obtain ⟨n1, n2⟩ := (nT_zero a1).1 ht
    have hca : c ≤ a ∧ (c = a → b < 0) := by omega
    have hs : stepF a b c = (c, -b, a) := by unfold stepF; rw [if_neg (by omega)]
    have hm : mvM a b c = (0, -1, 1, 0) := by unfold mvM; rw [if_neg (by omega), if_neg (by rw [hr]; simp)]
    rw [hs, hm]
    refine ⟨⟨by omega, by omega, ⟨by simp only; omega, by simp only; omega⟩, by omega, by simp only; rw [← hdd]; grind, fun k => by rw [← hn]; exact rep_flip⟩, ?_, ?_, ?_, ?_⟩
    · unfold rMs
      rw [if_pos ht]
      by_cases hca2 : c = a
      · have hb := hca.2 hca2
        subst hca2
        have : nT c (-b) = 0 := (nT_zero a1).2 ⟨by omega, by omega⟩
        simp only
        rw [if_pos this, if_neg (show ¬ -b < 0 by omega), if_pos hb]
        omega
      · simp only
        split <;> split <;> split <;> omega
    · show valW a b c 0 1 = c
      rw [valW_of (by unfold K8; omega) (by unfold K8; omega) (by unfold K8; omega) (by unfold K8; omega) (by unfold K8; omega) (by unfold K8; omega)]
      omega
    · show polW a b c 0 1 (-1) 0 = -b
      rw [polW_of (by unfold K8; omega) (by unfold K8; omega) (by unfold K8; omega) (by unfold K8; omega) (by unfold K8; omega) (by unfold K8; omega) (by unfold K8; omega) (by unfold K8; omega) (by unfold K8; omega)]
      omega
    · show valW a b c (-1) 0 = a
      rw [valW_of (by unfold K8; omega) (by unfold K8; omega) (by unfold K8; omega) (by unfold K8; omega) (by unfold K8; omega) (by unfold K8; omega)]
      omega
  · have hs : stepF a b c = (a, b + 2 * a * nT a b, a * nT a b * nT a b + b * nT a b + c) := by unfold stepF; rw [if_pos ht]
    have hm : mvM a b c = (1, nT a b, 0, 1) := by unfold mvM; rw [if_pos ht]
    have hq := Int.mul_ediv_add_emod (a - b) (2 * a)
    have hm0 := Int.emod_nonneg (a - b) (show 2 * a ≠ 0 by omega)
    have hm1 := Int.emod_lt_of_pos (a - b) (show 0 < 2 * a by omega)
    have htd : nT a b = (a - b) / (2 * a) := rfl
    rw [← htd] at hq
    have hms : rMs (stepF a b c).1 (stepF a b c).2.1 < rMs a b := by
      rw [hs]
      have hz : nT a (b + 2 * a * nT a b) = 0 := (nT_zero a1).2 ⟨by omega, by omega⟩
      unfold rMs
      simp only
      rw [if_pos hz, if_neg ht]
      split <;> split <;> omega
    rw [hs, hm] at *
    generalize nT a b = t at *
    have tb : Bd 40000 t := by
      have e1 : 2 * a * t = 2 * t + 2 * (a - 1) * t := by grind
      constructor
      · refine Int.le_of_not_gt fun hlt => ?_
        have : 2 * (a - 1) * t ≤ 0 := Int.mul_nonpos_of_nonneg_of_nonpos (by omega) (by omega)
        omega
      · refine Int.le_of_not_gt fun hlt => ?_
        have : 0 ≤ 2 * (a - 1) * t := Int.mul_nonneg (by omega) (by omega)
        omega
    have B1 : -a < b + 2 * a * t ∧ b + 2 * a * t ≤ a := ⟨by omega, by omega⟩
    have atb := mul_bd (show Bd 20000 a from ⟨by omega, by omega⟩) tb (show (20000 : Int) * 40000 ≤ 800000000 by decide)
    have attb := mul_bd atb tb (show (800000000 : Int) * 40000 ≤ 32000000000000 by decide)
    have btb := mul_bd (show Bd 40000 b from ⟨b1, b2⟩) tb (show (40000 : Int) * 40000 ≤ 1600000000 by decide)
    obtain ⟨p1, p2⟩ := atb
    obtain ⟨p3, p4⟩ := attb
    obtain ⟨p5, p6⟩ := btb
    have hval : (b + 2 * a * t) * (b + 2 * a * t) - 4 * a * (a * t * t + b * t + c) = d := by rw [← hdd]; grind
    have hC1 : 1 ≤ a * t * t + b * t + c := by
      refine Int.le_of_not_gt fun hle => ?_
      have h1 : 4 * a * (a * t * t + b * t + c) ≤ 0 := Int.mul_nonpos_of_nonneg_of_nonpos (by omega) (by omega)
      have h2 := sq_nn (b + 2 * a * t)
      omega
    have e2a : 2 * a * t = 2 * (a * t) := by grind
    refine ⟨⟨a1, a2, ⟨by simp only; omega, by simp only; omega⟩, hC1, hval, fun k => by rw [← hn]; exact rep_shift t⟩, hms, ?_, ?_, ?_⟩
    · show valW a b c 1 0 = a
      rw [valW_of (by unfold K8; omega) (by unfold K8; omega) (by unfold K8; omega) (by unfold K8; omega) (by unfold K8; omega) (by unfold K8; omega)]
      omega
    · show polW a b c 1 0 t 1 = b + 2 * a * t
      have e0 : (1 : Int) * 1 + 0 * t = 1 := by omega
      rw [polW_of (by unfold K8; omega) (by unfold K8; omega) (by rw [Int.mul_one]; unfold K8; omega) (by unfold K8; omega) (by unfold K8; omega) (by rw [e0]; unfold K8; omega) (by unfold K8; omega) (by unfold K8; omega) (by unfold K8; omega), e0, Int.mul_one (2 * a)]
      omega
    · show valW a b c t 1 = a * t * t + b * t + c
      rw [valW_of (by unfold K8; omega) (by unfold K8; omega) (by unfold K8; omega) (by unfold K8; omega) (by unfold K8; omega) (by unfold K8; omega)]
      omega
end Go.Proofs.Ytladcjoiaoaedaa
