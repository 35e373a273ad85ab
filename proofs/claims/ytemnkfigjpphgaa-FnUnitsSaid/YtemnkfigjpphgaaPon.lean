/-
  The least solution for 1, the program.
-/
import Derived.Test.YtemnkfigjpphgaaPpw
namespace Go.Proofs.Ytemnkfigjpphgaa
open Go.RowKit
attribute [local simp, local go_sem] past_cell past_frozen past_tape
def poB (n : Int) : Bool := decide (2 ≤ n ∧ n ≤ 250) && !sqB n
theorem sq_sqB {q t : Int} (h : t * t = q) : sqB q = true := by
  have h0 : 0 ≤ t * t := by
    rcases Int.le_total 0 t with h | h
    · exact Int.mul_nonneg h h
    · exact Int.mul_nonneg_of_nonpos_of_nonpos h h
  have hq : isqrt q = (t.natAbs : Int) := by
    rw [← h]
    exact isqrt_unique (by omega) (by rw [Int.natAbs_mul_self']; omega) (by
      have e := Int.natAbs_mul_self' t
      have e2 : ((t.natAbs : Int) + 1) * ((t.natAbs : Int) + 1) = (t.natAbs : Int) * (t.natAbs : Int) + 2 * (t.natAbs : Int) + 1 := by grind
      omega)
  unfold sqB
  rw [hq, Int.natAbs_mul_self', h]
  simp
  omega
theorem po_pos {n : Int} (h : poB n = true) : posB (4 * n) = true ∧ 2 ≤ n ∧ n ≤ 250 ∧ sqB n = false := by
  unfold poB at h
  simp only [Bool.and_eq_true, decide_eq_true_eq, Bool.not_eq_true'] at h
  obtain ⟨⟨h1, h2⟩, h3⟩ := h
  refine ⟨?_, h1, h2, h3⟩
  have hs : sqB (4 * n) = false := by
    cases hq : sqB (4 * n)
    · rfl
    · exfalso
      unfold sqB at hq
      simp only [Bool.and_eq_true, decide_eq_true_eq] at hq
      obtain ⟨_, hq⟩ := hq
      generalize isqrt (4 * n) = s at hq
      rcases (show s % 2 = 0 ∨ s % 2 = 1 by omega) with he | ho
      · obtain ⟨m, rfl⟩ := Int.dvd_of_emod_eq_zero he
        have : m * m = n := by
          have : 2 * m * (2 * m) = 4 * (m * m) := by grind
          omega
        rw [sq_sqB this] at h3
        cases h3
      · obtain ⟨m, hm⟩ : ∃ m, s = 2 * m + 1 := ⟨s / 2, by omega⟩
        rw [hm] at hq
        have : (2 * m + 1) * (2 * m + 1) = 4 * (m * m + m) + 1 := by grind
        omega
  unfold posB
  rw [hs]
  simp
  omega
/-- What PellOne returns. -/
def PO (n t u : Int) (ok : Bool) : Prop := (poB n = true ∧ ∃ T, PFour (4 * n) T u ok ∧ t = T.tdiv 2) ∨ (poB n = false ∧ t = 0 ∧ u = 0 ∧ ok = false)
theorem PO.exist (n : Int) : ∃ t u ok, PO n t u ok := by
  cases h : poB n with
  | true =>
    obtain ⟨T, u, ok, h2⟩ := pf_exists (4 * n) (by have := (po_pos h).2.1; omega)
    exact ⟨_, u, ok, .inl ⟨h, T, h2, rfl⟩⟩
  | false => exact ⟨0, 0, false, .inr ⟨h, rfl, rfl, rfl⟩⟩
set_option maxHeartbeats 8000000 in
theorem implPellOne_any (n t u : Int) (ok : Bool) (w : World) (h : PO n t u ok) :
    Calls Try.prog 17 #[.int .i64 n] w fun en w' => en = .returned (.tuple #[.agg #[.int .i64 t, .int .i64 u], .bool ok]) ∧ Below w.heap.size w w' := by
  rcases h with ⟨hb, T, hf, rfl⟩ | ⟨hb, rfl, rfl, rfl⟩
  · obtain ⟨hp, n1, n2, hs⟩ := po_pos hb
    have hsq : Hid (∀ w1, Calls Try.prog 63 #[.int .i64 n] w1 fun e w' => e = .returned (.bool false) ∧ w1 = w') := Lib.hid fun w1 => by have := isSquare_any n w1 (by omega); rwa [hs] at this
    have hcall := Lib.hid fun w1 => pellFour_any (4 * n) T u ok w1 hp hf
    have hw4 : wrap64 (4 * n) = 4 * n := by unfold wrap64; omega
    have hT : wrap64 (T.tdiv 2) = T.tdiv 2 := by
      have : 0 ≤ T ∧ T ≤ 100000000 := by
        rcases hf with ⟨_, h1, h2⟩ | ⟨_, rfl, _, _⟩
        · have := h1.1.1; have := h2.1; omega
        · omega
      have e : T.tdiv 2 = T / 2 := Int.tdiv_eq_ediv_of_nonneg this.1
      rw [e]; unfold wrap64; omega
    have hd1 : decide (n < 2) = false := decide_eq_false (by omega)
    have hd2 : decide (250 < n) = false := decide_eq_false (by omega)
    have hd3 : decide (n > 250) = false := decide_eq_false (by omega)
    clear hf hb
    go_enter Try.func17, Try.ntmps17
    go_wp2_with (first | (go_at_call 63; refine (hsq.out _).mono ?_; rintro e w' ⟨rfl, rfl⟩) | (go_at_call 49; refine (hcall.out _).mono ?_; rintro e w' ⟨rfl, hB⟩; obtain ⟨hC, hF⟩ := bcell hB; have hS := hB.size; (try simp at hS); (try have hSl := Nat.lt_of_succ_le hS); (try have hS0 : w.heap.size < w'.heap.size := by omega); (try have hS1 : w.heap.size + 1 < w'.heap.size := by omega); (try have hS2 : w.heap.size + 1 + 1 < w'.heap.size := by omega); (try have hS3 : w.heap.size + 1 + 1 + 1 < w'.heap.size := by omega)))
    refine bodyPost_ret (v := .tuple #[.agg #[.int .i64 (T.tdiv 2), .int .i64 u], .bool ok]) (by go_light; simp [results, Try.results17, go_sem, *]) rfl ⟨rfl, ?_⟩
    repeat (first | with_reducible exact Below.refl _ _ | with_reducible assumption | ((with_reducible refine blA ?_ ?_); (focus (first | omega | (simp <;> omega)))) | (with_reducible refine blD ?_) | (with_reducible refine blN ?_) | ((with_reducible refine blS ?_ ?_); (focus (first | omega | (simp <;> omega)))) | ((with_reducible refine blT (by assumption) ?_ ?_); (focus (first | omega | (simp <;> omega)))))
  · by_cases c1 : n < 2
    · have hd1 : decide (n < 2) = true := decide_eq_true c1
      go_enter Try.func17, Try.ntmps17
      go_wp2_with fail
      all_goals
        refine bodyPost_ret (v := .tuple #[.agg #[.int .i64 0, .int .i64 0], .bool false]) (by go_light; simp [results, Try.results17, go_sem, *]) rfl ⟨rfl, ?_⟩
        repeat (first | with_reducible exact Below.refl _ _ | with_reducible assumption | ((with_reducible refine blA ?_ ?_); (focus (first | omega | (simp <;> omega)))) | (with_reducible refine blD ?_) | (with_reducible refine blN ?_) | ((with_reducible refine blS ?_ ?_); (focus (first | omega | (simp <;> omega)))) | ((with_reducible refine blT (by assumption) ?_ ?_); (focus (first | omega | (simp <;> omega)))))
    · have hd1 : decide (n < 2) = false := decide_eq_false c1
      by_cases c2 : 250 < n
      · have hd2 : decide (250 < n) = true := decide_eq_true c2
        have hd3 : decide (n > 250) = true := decide_eq_true c2
        go_enter Try.func17, Try.ntmps17
        go_wp2_with fail
        all_goals
          refine bodyPost_ret (v := .tuple #[.agg #[.int .i64 0, .int .i64 0], .bool false]) (by go_light; simp [results, Try.results17, go_sem, *]) rfl ⟨rfl, ?_⟩
          repeat (first | with_reducible exact Below.refl _ _ | with_reducible assumption | ((with_reducible refine blA ?_ ?_); (focus (first | omega | (simp <;> omega)))) | (with_reducible refine blD ?_) | (with_reducible refine blN ?_) | ((with_reducible refine blS ?_ ?_); (focus (first | omega | (simp <;> omega)))) | ((with_reducible refine blT (by assumption) ?_ ?_); (focus (first | omega | (simp <;> omega)))))
      · have hd2 : decide (250 < n) = false := decide_eq_false c2
        have hd3 : decide (n > 250) = false := decide_eq_false c2
        have hs : sqB n = true := by
          unfold poB at hb
          cases h : sqB n
          · rw [h] at hb
            simp at hb
            omega
          · rfl
        have hsq : Hid (∀ w1, Calls Try.prog 63 #[.int .i64 n] w1 fun e w' => e = .returned (.bool true) ∧ w1 = w') := Lib.hid fun w1 => by have := isSquare_any n w1 (by omega); rwa [hs] at this
        go_enter Try.func17, Try.ntmps17
        go_wp2_with (first | (go_at_call 63; refine (hsq.out _).mono ?_; rintro e w' ⟨rfl, rfl⟩))
        all_goals
          refine bodyPost_ret (v := .tuple #[.agg #[.int .i64 0, .int .i64 0], .bool false]) (by go_light; simp [results, Try.results17, go_sem, *]) rfl ⟨rfl, ?_⟩
          repeat (first | with_reducible exact Below.refl _ _ | with_reducible assumption | ((with_reducible refine blA ?_ ?_); (focus (first | omega | (simp <;> omega)))) | (with_reducible refine blD ?_) | (with_reducible refine blN ?_) | ((with_reducible refine blS ?_ ?_); (focus (first | omega | (simp <;> omega)))) | ((with_reducible refine blT (by assumption) ?_ ?_); (focus (first | omega | (simp <;> omega)))))
end Go.Proofs.Ytemnkfigjpphgaa
