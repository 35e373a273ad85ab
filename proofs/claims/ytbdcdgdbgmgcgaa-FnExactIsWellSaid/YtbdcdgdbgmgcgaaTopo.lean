/-
  Contracts of the topograph's functions.
-/
import Derived.Test.YtbdcdgdbgmgcgaaForm
namespace Go.Proofs.Ytbdcdgdbgmgcgaa
open Go.RowKit
attribute [local simp, local go_sem] past_cell past_frozen past_tape
theorem lessPoint_any (x y u v : Int) (w : World) :
    Calls Try.prog 56 #[.agg #[.int .i64 x, .int .i64 y], .agg #[.int .i64 u, .int .i64 v]] w fun e w' => e = .returned (.bool (decide (x < u) || (decide (x = u) && decide (y < v)))) ∧ Below w.heap.size w w' := by
  have HB : ∀ b : Bool, Hid (b = b) := fun _ => rfl
  by_cases h1 : x < u
  · go_enter Try.func56, Try.ntmps56
    go_wp2
    go_ret
    refine ⟨ret_bool (by go_light; simp [h1]), ?_⟩
    repeat (first | with_reducible exact Below.refl _ _ | with_reducible assumption | ((with_reducible refine blA ?_ ?_); (focus (first | omega | (simp <;> omega)))) | (with_reducible refine blD ?_) | (with_reducible refine blN ?_) | ((with_reducible refine blS ?_ ?_); (focus (first | omega | (simp <;> omega)))) | ((with_reducible refine blT (by assumption) ?_ ?_); (focus (first | omega | (simp <;> omega)))))
  · by_cases h2 : x = u
    · subst h2
      go_enter Try.func56, Try.ntmps56
      go_wp2
      all_goals
        go_ret
        refine ⟨ret_bool (by go_light; simp [*]), ?_⟩
        repeat (first | with_reducible exact Below.refl _ _ | with_reducible assumption | ((with_reducible refine blA ?_ ?_); (focus (first | omega | (simp <;> omega)))) | (with_reducible refine blD ?_) | (with_reducible refine blN ?_) | ((with_reducible refine blS ?_ ?_); (focus (first | omega | (simp <;> omega)))) | ((with_reducible refine blT (by assumption) ?_ ?_); (focus (first | omega | (simp <;> omega)))))
    · have h3 : (x == u) = false := by simpa using h2
      have h2' := Lib.hid h2
      clear h2
      go_enter Try.func56, Try.ntmps56
      go_wp2
      all_goals
        go_ret
        refine ⟨ret_bool (by go_light; have := h2'.out; simp [*]), ?_⟩
        repeat (first | with_reducible exact Below.refl _ _ | with_reducible assumption | ((with_reducible refine blA ?_ ?_); (focus (first | omega | (simp <;> omega)))) | (with_reducible refine blD ?_) | (with_reducible refine blN ?_) | ((with_reducible refine blS ?_ ?_); (focus (first | omega | (simp <;> omega)))) | ((with_reducible refine blT (by assumption) ?_ ?_); (focus (first | omega | (simp <;> omega)))))
def lessB (x y u v : Int) : Bool := decide (x < u) || (decide (x = u) && decide (y < v))
theorem lessPoint_b (x y u v : Int) (w : World) :
    Calls Try.prog 56 #[.agg #[.int .i64 x, .int .i64 y], .agg #[.int .i64 u, .int .i64 v]] w fun e w' => e = .returned (.bool (lessB x y u v)) ∧ Below w.heap.size w w' := lessPoint_any x y u v w
theorem tpLess_b (x y u v : Int) (w : World) :
    Calls Try.prog 52 #[.agg #[.int .i64 x, .int .i64 y], .agg #[.int .i64 u, .int .i64 v]] w fun e w' => e = .returned (.bool (lessB x y u v)) ∧ Below w.heap.size w w' := by
  by_cases h1 : x < u
  · go_enter Try.func52, Try.ntmps52
    go_wp2
    go_ret
    refine ⟨ret_bool (by go_light; simp [lessB, h1]), ?_⟩
    repeat (first | with_reducible exact Below.refl _ _ | with_reducible assumption | ((with_reducible refine blA ?_ ?_); (focus (first | omega | (simp <;> omega)))) | (with_reducible refine blD ?_) | (with_reducible refine blN ?_) | ((with_reducible refine blS ?_ ?_); (focus (first | omega | (simp <;> omega)))) | ((with_reducible refine blT (by assumption) ?_ ?_); (focus (first | omega | (simp <;> omega)))))
  · by_cases h2 : x = u
    · subst h2
      go_enter Try.func52, Try.ntmps52
      go_wp2
      all_goals
        go_ret
        refine ⟨ret_bool (by go_light; simp [lessB, *]), ?_⟩
        repeat (first | with_reducible exact Below.refl _ _ | with_reducible assumption | ((with_reducible refine blA ?_ ?_); (focus (first | omega | (simp <;> omega)))) | (with_reducible refine blD ?_) | (with_reducible refine blN ?_) | ((with_reducible refine blS ?_ ?_); (focus (first | omega | (simp <;> omega)))) | ((with_reducible refine blT (by assumption) ?_ ?_); (focus (first | omega | (simp <;> omega)))))
    · have h3 : (x == u) = false := by simpa using h2
      have h2' := Lib.hid h2
      clear h2
      go_enter Try.func52, Try.ntmps52
      go_wp2
      all_goals
        go_ret
        refine ⟨ret_bool (by go_light; have := h2'.out; simp [lessB, *]), ?_⟩
        repeat (first | with_reducible exact Below.refl _ _ | with_reducible assumption | ((with_reducible refine blA ?_ ?_); (focus (first | omega | (simp <;> omega)))) | (with_reducible refine blD ?_) | (with_reducible refine blN ?_) | ((with_reducible refine blS ?_ ?_); (focus (first | omega | (simp <;> omega)))) | ((with_reducible refine blT (by assumption) ?_ ?_); (focus (first | omega | (simp <;> omega)))))
def turnW (x y u v : Int) : Int := wrap64 (wrap64 (x * v) - wrap64 (y * u))
theorem turn_any (x y u v : Int) (w : World) :
    Calls Try.prog 57 #[.agg #[.int .i64 x, .int .i64 y], .agg #[.int .i64 u, .int .i64 v]] w fun e w' => e = .returned (.int .i64 (turnW x y u v)) ∧ Below w.heap.size w w' := by
  go_enter Try.func57, Try.ntmps57
  go_wp2
  go_ret
  refine ⟨rfl, ?_⟩
  repeat (first | with_reducible exact Below.refl _ _ | with_reducible assumption | ((with_reducible refine blA ?_ ?_); (focus (first | omega | (simp <;> omega)))) | (with_reducible refine blD ?_) | (with_reducible refine blN ?_) | ((with_reducible refine blS ?_ ?_); (focus (first | omega | (simp <;> omega)))) | ((with_reducible refine blT (by assumption) ?_ ?_); (focus (first | omega | (simp <;> omega)))))
theorem tpDet_any (x y u v : Int) (w : World) :
    Calls Try.prog 54 #[.agg #[.int .i64 x, .int .i64 y], .agg #[.int .i64 u, .int .i64 v]] w fun e w' => e = .returned (.int .i64 (turnW x y u v)) ∧ Below w.heap.size w w' := by
  go_enter Try.func54, Try.ntmps54
  go_wp2
  go_ret
  refine ⟨rfl, ?_⟩
  repeat (first | with_reducible exact Below.refl _ _ | with_reducible assumption | ((with_reducible refine blA ?_ ?_); (focus (first | omega | (simp <;> omega)))) | (with_reducible refine blD ?_) | (with_reducible refine blN ?_) | ((with_reducible refine blS ?_ ?_); (focus (first | omega | (simp <;> omega)))) | ((with_reducible refine blT (by assumption) ?_ ?_); (focus (first | omega | (simp <;> omega)))))
def regB (x y : Int) : Bool := numB x && numB y && decide (Int.gcd x y = 1) && (decide (0 < x) || (decide (x = 0) && decide (y = 1)))
theorem J64_of {k n : Int} (h : Bd k n) (hk : k ≤ 9223372036854775807) : J64 n := ⟨by have := h.1; omega, by have := h.2; omega⟩
set_option maxHeartbeats 800000 in
theorem isRegion_any (x y : Int) (w : World) :
    Calls Try.prog 55 #[.agg #[.int .i64 x, .int .i64 y]] w fun e w' => e = .returned (.bool (regB x y)) ∧ Below w.heap.size w w' := by
  by_cases c1 : (numB x && numB y) = true
  · have hs : Hid (regB x y = (decide (Int.gcd x y = 1) && (decide (0 < x) || (decide (x = 0) && decide (y = 1))))) := by show _ = _; simp only [regB, c1, Bool.true_and]
    have hl : Hid ([x, y].all numB = true) := by show _ = _; simpa using c1
    have c1' : numB x = true ∧ numB y = true := by simpa using c1
    have jx := J64_of (numB_bd c1'.1) (by decide)
    have jy := J64_of (numB_bd c1'.2) (by decide)
    have HC := Lib.hid c1
    clear c1 c1'
    go_enter Try.func55, Try.ntmps55
    go_wp2_with (first | (go_at_call 59; refine (areNumbers_any [x, y] _ _ (by simp) ?hc).mono ?_) | (go_at_call 72; refine (gcd_any _ _ _ (by assumption) (by assumption)).mono ?_; rintro e w' ⟨rfl, nq, rfl⟩))
    case hc => intro i hi; match i, hi with | 0, _ => simp [go_sem] | 1, _ => simp [go_sem]
    rintro e w' ⟨rfl, rfl⟩
    rw [hl.out]
    go_wp2_with (go_at_call 72; refine (gcd_any _ _ _ (by assumption) (by assumption)).mono ?_; rintro e w' ⟨rfl, nq, rfl⟩)
    all_goals
      go_ret
      refine ⟨ret_bool ?_, ?_⟩
      · go_light
        rw [hs.out]
        simp_all
        all_goals (first | omega | (rw [Bool.eq_iff_iff]; simp; omega))
      · repeat (first | with_reducible exact Below.refl _ _ | with_reducible assumption | ((with_reducible refine blA ?_ ?_); (focus (first | omega | (simp <;> omega)))) | (with_reducible refine blD ?_) | (with_reducible refine blN ?_) | ((with_reducible refine blS ?_ ?_); (focus (first | omega | (simp <;> omega)))) | ((with_reducible refine blT (by assumption) ?_ ?_); (focus (first | omega | (simp <;> omega)))))
  · have hs : Hid (regB x y = false) := by show _ = _; simp only [regB, Bool.not_eq_true] at c1 ⊢; simp [c1]
    have hl : Hid ([x, y].all numB = false) := by show _ = _; simpa using c1
    clear c1
    go_enter Try.func55, Try.ntmps55
    go_wp2_with (go_at_call 59; refine (areNumbers_any [x, y] _ _ (by simp) ?hc).mono ?_)
    case hc => intro i hi; match i, hi with | 0, _ => simp [go_sem] | 1, _ => simp [go_sem]
    rintro e w' ⟨rfl, rfl⟩
    rw [hl.out]
    go_wp2
    go_ret
    refine ⟨ret_bool hs.out.symm, ?_⟩
    repeat (first | with_reducible exact Below.refl _ _ | with_reducible assumption | ((with_reducible refine blA ?_ ?_); (focus (first | omega | (simp <;> omega)))) | (with_reducible refine blD ?_) | (with_reducible refine blN ?_) | ((with_reducible refine blS ?_ ?_); (focus (first | omega | (simp <;> omega)))) | ((with_reducible refine blT (by assumption) ?_ ?_); (focus (first | omega | (simp <;> omega)))))
theorem gcd_iff (x y : Int) : ((Int.gcd x y : Int) == 1) = decide (Int.gcd x y = 1) := by
  rw [Bool.eq_iff_iff]; simp; omega
set_option maxHeartbeats 800000 in
theorem tpRegion_any (x y : Int) (w : World) :
    Calls Try.prog 51 #[.agg #[.int .i64 x, .int .i64 y]] w fun e w' => e = .returned (.bool (regB x y)) ∧ Below w.heap.size w w' := by
  by_cases c1 : numB x = true
  · by_cases c2 : numB y = true
    · have hs : Hid (regB x y = (decide (Int.gcd x y = 1) && (decide (0 < x) || (decide (x = 0) && decide (y = 1))))) := by show _ = _; simp only [regB, c1, c2, Bool.true_and]
      have jx := J64_of (numB_bd c1) (by decide)
      have jy := J64_of (numB_bd c2) (by decide)
      go_enter Try.func51, Try.ntmps51
      go_wp2_with (first | (go_at_call 58; refine (nuGood_any _ _).mono ?_; rintro e w' ⟨rfl, rfl⟩) | (go_at_call 71; refine (nuGcd_any _ _ _ (by assumption) (by assumption)).mono ?_; rintro e w' ⟨rfl, nq, rfl⟩))
      all_goals
        go_ret
        refine ⟨ret_bool ?_, ?_⟩
        · go_light
          rw [hs.out]
          clear c1 c2
          simp_all
          all_goals (first | omega | (rw [Bool.eq_iff_iff]; simp; omega))
        · repeat (first | with_reducible exact Below.refl _ _ | with_reducible assumption | ((with_reducible refine blA ?_ ?_); (focus (first | omega | (simp <;> omega)))) | (with_reducible refine blD ?_) | (with_reducible refine blN ?_) | ((with_reducible refine blS ?_ ?_); (focus (first | omega | (simp <;> omega)))) | ((with_reducible refine blT (by assumption) ?_ ?_); (focus (first | omega | (simp <;> omega)))))
    · have hs : Hid (regB x y = false) := by show _ = _; simp [regB, c2]
      have c2' : numB y = false := by simpa using c2
      clear c2
      go_enter Try.func51, Try.ntmps51
      go_wp2_with (go_at_call 58; refine (nuGood_any _ _).mono ?_; rintro e w' ⟨rfl, rfl⟩)
      go_ret
      refine ⟨ret_bool hs.out.symm, ?_⟩
      repeat (first | with_reducible exact Below.refl _ _ | with_reducible assumption | ((with_reducible refine blA ?_ ?_); (focus (first | omega | (simp <;> omega)))) | (with_reducible refine blD ?_) | (with_reducible refine blN ?_) | ((with_reducible refine blS ?_ ?_); (focus (first | omega | (simp <;> omega)))) | ((with_reducible refine blT (by assumption) ?_ ?_); (focus (first | omega | (simp <;> omega)))))
  · have hs : Hid (regB x y = false) := by show _ = _; simp [regB, c1]
    have c1' : numB x = false := by simpa using c1
    clear c1
    go_enter Try.func51, Try.ntmps51
    go_wp2_with (go_at_call 58; refine (nuGood_any _ _).mono ?_; rintro e w' ⟨rfl, rfl⟩)
    go_ret
    refine ⟨ret_bool hs.out.symm, ?_⟩
    repeat (first | with_reducible exact Below.refl _ _ | with_reducible assumption | ((with_reducible refine blA ?_ ?_); (focus (first | omega | (simp <;> omega)))) | (with_reducible refine blD ?_) | (with_reducible refine blN ?_) | ((with_reducible refine blS ?_ ?_); (focus (first | omega | (simp <;> omega)))) | ((with_reducible refine blT (by assumption) ?_ ?_); (focus (first | omega | (simp <;> omega)))))
def unitB (n : Int) : Bool := decide (n = 1 ∨ n = -1)
theorem tpUnit_any (n : Int) (w : World) :
    Calls Try.prog 53 #[.int .i64 n] w fun e w' => e = .returned (.bool (unitB n)) ∧ w = w' := by
  by_cases h : n = 1
  · subst h
    go_enter Try.func53, Try.ntmps53
    go_wp2
    go_ret
    exact ⟨ret_bool (by simp [unitB]), rfl⟩
  · have h' : (n == 1) = false := by simpa using h
    have HH := Lib.hid h
    clear h
    go_enter Try.func53, Try.ntmps53
    go_wp2
    all_goals
      go_ret
      refine ⟨ret_bool ?_, rfl⟩
      go_light
      have := HH.out
      simp_all [unitB]
      try (rw [Bool.eq_iff_iff]; simp)
def nodeB (a b c d e f : Int) : Bool := regB a b && regB c d && regB e f && lessB a b c d && lessB c d e f && unitB (turnW a b c d) && unitB (turnW a b e f) && unitB (turnW c d e f)
theorem wrap64_I (n : Int) : I64 (wrap64 n) := by unfold wrap64 I64; omega
theorem turnW_I (a b c d : Int) : I64 (turnW a b c d) := wrap64_I _
theorem absI_unit {n : Int} (h : I64 n) : (absI n == 1) = unitB n := by
  rw [Bool.eq_iff_iff]
  unfold unitB absI
  obtain ⟨h1, h2⟩ := h
  split
  · simp; omega
  · split <;> simp <;> omega
set_option maxHeartbeats 4000000 in
theorem isNode_any (a b c d e f : Int) (w : World) :
    Calls Try.prog 28 #[.agg #[.int .i64 a, .int .i64 b, .int .i64 c, .int .i64 d, .int .i64 e, .int .i64 f]] w fun en w' => en = .returned (.bool (nodeB a b c d e f)) ∧ Below w.heap.size w w' := by
  have t1 := turnW_I a b c d
  have t2 := turnW_I a b e f
  have t3 := turnW_I c d e f
  have u1 := absI_unit t1
  have u2 := absI_unit t2
  have u3 := absI_unit t3
  go_enter Try.func28, Try.ntmps28
  go_wp2_with (first | (go_at_call 55; refine (isRegion_any _ _ _).mono ?_; rintro e w' ⟨rfl, hB⟩; obtain ⟨hC, hF⟩ := bcell hB; have hS := hB.size; (try simp at hS); (try have hSl := Nat.lt_of_succ_le hS); (try have hS0 : w.heap.size < w'.heap.size := by omega); (try have hS1 : w.heap.size + 1 < w'.heap.size := by omega); (try have hS2 : w.heap.size + 1 + 1 < w'.heap.size := by omega); (try have hS3 : w.heap.size + 1 + 1 + 1 < w'.heap.size := by omega)) | (go_at_call 56; refine (lessPoint_b _ _ _ _ _).mono ?_; rintro e w' ⟨rfl, hB⟩; obtain ⟨hC, hF⟩ := bcell hB; have hS := hB.size; (try simp at hS); (try have hSl := Nat.lt_of_succ_le hS); (try have hS0 : w.heap.size < w'.heap.size := by omega); (try have hS1 : w.heap.size + 1 < w'.heap.size := by omega); (try have hS2 : w.heap.size + 1 + 1 < w'.heap.size := by omega); (try have hS3 : w.heap.size + 1 + 1 + 1 < w'.heap.size := by omega)) | (go_at_call 57; refine (turn_any _ _ _ _ _).mono ?_; rintro e w' ⟨rfl, hB⟩; obtain ⟨hC, hF⟩ := bcell hB; have hS := hB.size; (try simp at hS); (try have hSl := Nat.lt_of_succ_le hS); (try have hS0 : w.heap.size < w'.heap.size := by omega); (try have hS1 : w.heap.size + 1 < w'.heap.size := by omega); (try have hS2 : w.heap.size + 1 + 1 < w'.heap.size := by omega); (try have hS3 : w.heap.size + 1 + 1 + 1 < w'.heap.size := by omega)) | (go_at_call 48; refine (abs_any _ _ (by assumption)).mono ?_; rintro e w' ⟨rfl, rfl⟩))
  all_goals
    go_ret
    refine ⟨ret_bool ?_, ?_⟩
    · go_light; simp [nodeB, *]
    · repeat (first | with_reducible exact Below.refl _ _ | with_reducible assumption | ((with_reducible refine blA ?_ ?_); (focus (first | omega | (simp <;> omega)))) | (with_reducible refine blD ?_) | (with_reducible refine blN ?_) | ((with_reducible refine blS ?_ ?_); (focus (first | omega | (simp <;> omega)))) | ((with_reducible refine blT (by assumption) ?_ ?_); (focus (first | omega | (simp <;> omega)))))
set_option maxHeartbeats 4000000 in
theorem tpGood_any (a b c d e f : Int) (w : World) :
    Calls Try.prog 26 #[.agg #[.int .i64 a, .int .i64 b, .int .i64 c, .int .i64 d, .int .i64 e, .int .i64 f]] w fun en w' => en = .returned (.bool (nodeB a b c d e f)) ∧ Below w.heap.size w w' := by
  go_enter Try.func26, Try.ntmps26
  go_wp2_with (first | (go_at_call 51; refine (tpRegion_any _ _ _).mono ?_; rintro e w' ⟨rfl, hB⟩; obtain ⟨hC, hF⟩ := bcell hB; have hS := hB.size; (try simp at hS); (try have hSl := Nat.lt_of_succ_le hS); (try have hS0 : w.heap.size < w'.heap.size := by omega); (try have hS1 : w.heap.size + 1 < w'.heap.size := by omega); (try have hS2 : w.heap.size + 1 + 1 < w'.heap.size := by omega); (try have hS3 : w.heap.size + 1 + 1 + 1 < w'.heap.size := by omega)) | (go_at_call 52; refine (tpLess_b _ _ _ _ _).mono ?_; rintro e w' ⟨rfl, hB⟩; obtain ⟨hC, hF⟩ := bcell hB; have hS := hB.size; (try simp at hS); (try have hSl := Nat.lt_of_succ_le hS); (try have hS0 : w.heap.size < w'.heap.size := by omega); (try have hS1 : w.heap.size + 1 < w'.heap.size := by omega); (try have hS2 : w.heap.size + 1 + 1 < w'.heap.size := by omega); (try have hS3 : w.heap.size + 1 + 1 + 1 < w'.heap.size := by omega)) | (go_at_call 54; refine (tpDet_any _ _ _ _ _).mono ?_; rintro e w' ⟨rfl, hB⟩; obtain ⟨hC, hF⟩ := bcell hB; have hS := hB.size; (try simp at hS); (try have hSl := Nat.lt_of_succ_le hS); (try have hS0 : w.heap.size < w'.heap.size := by omega); (try have hS1 : w.heap.size + 1 < w'.heap.size := by omega); (try have hS2 : w.heap.size + 1 + 1 < w'.heap.size := by omega); (try have hS3 : w.heap.size + 1 + 1 + 1 < w'.heap.size := by omega)) | (go_at_call 53; refine (tpUnit_any _ _).mono ?_; rintro e w' ⟨rfl, rfl⟩))
  all_goals
    go_ret
    refine ⟨ret_bool ?_, ?_⟩
    · go_light; simp [nodeB, *]
    · repeat (first | with_reducible exact Below.refl _ _ | with_reducible assumption | ((with_reducible refine blA ?_ ?_); (focus (first | omega | (simp <;> omega)))) | (with_reducible refine blD ?_) | (with_reducible refine blN ?_) | ((with_reducible refine blS ?_ ?_); (focus (first | omega | (simp <;> omega)))) | ((with_reducible refine blT (by assumption) ?_ ?_); (focus (first | omega | (simp <;> omega)))))
end Go.Proofs.Ytbdcdgdbgmgcgaa
