/-
  Square roots of integers.
-/
import Derived.Test.YtladcjoiaoaedaaNum
namespace Go.Proofs.Ytladcjoiaoaedaa
open Go.RowKit
attribute [local simp, local go_sem] past_cell past_frozen past_tape
/-- The greatest number whose square is at most n. -/
def sqrtN : Nat → Nat
  | 0 => 0
  | n + 1 => if (sqrtN n + 1) * (sqrtN n + 1) ≤ n + 1 then sqrtN n + 1 else sqrtN n
theorem sqrtN_spec (n : Nat) : sqrtN n * sqrtN n ≤ n ∧ n < (sqrtN n + 1) * (sqrtN n + 1) := by
  induction n with
  | zero => decide
  | succ n ih =>
    rw [sqrtN]
    obtain ⟨h1, h2⟩ := ih
    split
    · rename_i h
      refine ⟨h, ?_⟩
      generalize sqrtN n = r at *
      have : (r + 1 + 1) * (r + 1 + 1) = (r + 1) * (r + 1) + 2 * r + 3 := by simp only [Nat.add_mul, Nat.mul_add]; omega
      omega
    · exact ⟨by omega, by omega⟩
def isqrt (n : Int) : Int := (sqrtN n.toNat : Int)
theorem isqrt_spec {n : Int} (h : 0 ≤ n) : 0 ≤ isqrt n ∧ isqrt n * isqrt n ≤ n ∧ n < (isqrt n + 1) * (isqrt n + 1) := by
  obtain ⟨h1, h2⟩ := sqrtN_spec n.toNat
  unfold isqrt
  refine ⟨by omega, ?_, ?_⟩
  · have : ((sqrtN n.toNat * sqrtN n.toNat : Nat) : Int) ≤ (n.toNat : Int) := by exact_mod_cast h1
    push_cast at this; omega
  · have : ((n.toNat : Nat) : Int) < ((sqrtN n.toNat + 1) * (sqrtN n.toNat + 1) : Nat) := by exact_mod_cast h2
    push_cast at this; omega
theorem sq_lt {a b : Int} (ha : 0 ≤ a) (hb : 0 ≤ b) (h : a * a < b * b) : a < b := by
  refine Int.lt_of_not_ge fun hle => ?_
  have := Int.mul_le_mul hle hle hb (by omega)
  omega
theorem isqrt_unique {n r : Int} (hr : 0 ≤ r) (h1 : r * r ≤ n) (h2 : n < (r + 1) * (r + 1)) : isqrt n = r := by
  have hn : 0 ≤ n := Int.le_trans (Int.mul_nonneg hr hr) h1
  obtain ⟨a, b, c⟩ := isqrt_spec hn
  have e1 : isqrt n < r + 1 := sq_lt a (by omega) (by omega)
  have e2 : r < isqrt n + 1 := sq_lt hr (by omega) (by omega)
  omega
theorem mid_facts {l h H : Int} (h0 : 0 ≤ l) (h1 : l < h) (h2 : h ≤ H) (hH : H ≤ 3000000000) : l < (l + h + 1) / 2 ∧ (l + h + 1) / 2 ≤ h ∧ 0 ≤ (l + h + 1) / 2 * ((l + h + 1) / 2) ∧ (l + h + 1) / 2 * ((l + h + 1) / 2) ≤ 9000000000000000000 := by
  have a : l < (l + h + 1) / 2 := by omega
  have b : (l + h + 1) / 2 ≤ h := by omega
  obtain ⟨c, d⟩ := mul_bd (show Bd 3000000000 ((l + h + 1) / 2) from ⟨by omega, by omega⟩) (show Bd 3000000000 ((l + h + 1) / 2) from ⟨by omega, by omega⟩) (show (3000000000 : Int) * 3000000000 ≤ 9000000000000000000 by decide)
  exact ⟨a, b, Int.mul_nonneg (by omega) (by omega), d⟩
set_option maxHeartbeats 400000 in
theorem root_any (n : Int) (w : World) (h0 : 0 ≤ n) (h1 : n ≤ 900000000000000000) :
    Calls Try.prog 62 #[.int .i64 n] w fun e w' => e = .returned (.int .i64 (isqrt n)) ∧ w = w' := by
  go_enter Try.func62, Try.ntmps62
  go_wp2
  go_loop [3, 4] (fun x y => ∃ l h : Int, 0 ≤ l ∧ l ≤ h ∧ h ≤ 3000000000 ∧ Hid (l * l ≤ n) ∧ Hid (n < (h + 1) * (h + 1)) ∧ x = .int .i64 l ∧ y = .int .i64 h) (fun x y => (intOf y - intOf x).toNat)
  case atStart => exact ⟨0, 3000000000, by omega, by omega, by omega, by show _ ≤ _; omega, by show _ < _; omega, rfl, rfl⟩
  case round =>
    obtain ⟨l, h, hl0, hlh, hH, ha, hb, rfl, rfl⟩ := hrel
    by_cases hlt : l < h
    · obtain ⟨m1, m2, m3, m4⟩ := mid_facts hl0 hlt hH (by omega)
      by_cases hc : (l + h + 1) / 2 * ((l + h + 1) / 2) ≤ n
      · go_wp2
        go_round
        case rel => exact ⟨_, h, by omega, by omega, by omega, hc, hb, rfl, rfl⟩
        case measure => simp [intOf]; omega
      · have hc2 : Hid (n < ((l + h + 1) / 2 - 1 + 1) * ((l + h + 1) / 2 - 1 + 1)) := by
          show n < _
          rw [show (l + h + 1) / 2 - 1 + 1 = (l + h + 1) / 2 by omega]
          omega
        go_wp2
        go_round
        case rel => exact ⟨l, _, by omega, by omega, by omega, ha, hc2, rfl, rfl⟩
        case measure => simp [intOf]; omega
    · obtain rfl : l = h := by omega
      go_wp2
      go_ret
      exact ⟨ret_int (isqrt_unique hl0 ha.out hb.out).symm, rfl⟩
set_option maxHeartbeats 400000 in
theorem nuRoot_any (n : Int) (w : World) (h0 : 0 ≤ n) (h1 : n ≤ 900000000000000000) :
    Calls Try.prog 87 #[.int .i64 n] w fun e w' => e = .returned (.int .i64 (isqrt n)) ∧ w = w' := by
  go_enter Try.func87, Try.ntmps87
  go_wp2
  go_loop [3, 4] (fun x y => ∃ l h : Int, 0 ≤ l ∧ l ≤ h ∧ h ≤ 1000000000 ∧ Hid (l * l ≤ n) ∧ Hid (n < (h + 1) * (h + 1)) ∧ x = .int .i64 l ∧ y = .int .i64 h) (fun x y => (intOf y - intOf x).toNat)
  case atStart => exact ⟨0, 1000000000, by omega, by omega, by omega, by show _ ≤ _; omega, by show _ < _; omega, rfl, rfl⟩
  case round =>
    obtain ⟨l, h, hl0, hlh, hH, ha, hb, rfl, rfl⟩ := hrel
    by_cases hlt : l < h
    · obtain ⟨m1, m2, m3, m4⟩ := mid_facts hl0 hlt hH (by omega)
      by_cases hc : (l + h + 1) / 2 * ((l + h + 1) / 2) ≤ n
      · go_wp2
        go_round
        case rel => exact ⟨_, h, by omega, by omega, by omega, hc, hb, rfl, rfl⟩
        case measure => simp [intOf]; omega
      · have hc2 : Hid (n < ((l + h + 1) / 2 - 1 + 1) * ((l + h + 1) / 2 - 1 + 1)) := by
          show n < _
          rw [show (l + h + 1) / 2 - 1 + 1 = (l + h + 1) / 2 by omega]
          omega
        go_wp2
        go_round
        case rel => exact ⟨l, _, by omega, by omega, by omega, ha, hc2, rfl, rfl⟩
        case measure => simp [intOf]; omega
    · obtain rfl : l = h := by omega
      go_wp2
      go_ret
      exact ⟨ret_int (isqrt_unique hl0 ha.out hb.out).symm, rfl⟩
/-- A square. -/
def sqB (n : Int) : Bool := decide (0 ≤ n) && decide (isqrt n * isqrt n = n)
theorem isqrt_bd {n : Int} (h0 : 0 ≤ n) (h1 : n ≤ 900000000000000000) : 0 ≤ isqrt n ∧ isqrt n ≤ 1000000000 ∧ 0 ≤ isqrt n * isqrt n ∧ isqrt n * isqrt n ≤ 900000000000000000 := by
  obtain ⟨a, b, c⟩ := isqrt_spec h0
  have : isqrt n < 1000000001 := sq_lt a (by omega) (by omega)
  exact ⟨a, by omega, Int.mul_nonneg a a, by omega⟩
theorem isSquare_any (n : Int) (w : World) (h1 : n ≤ 900000000000000000) :
    Calls Try.prog 63 #[.int .i64 n] w fun e w' => e = .returned (.bool (sqB n)) ∧ w = w' := by
  by_cases h0 : 0 ≤ n
  · obtain ⟨a, b, c, d⟩ := isqrt_bd h0 h1
    go_enter Try.func63, Try.ntmps63
    go_wp2_with (go_at_call 62; refine (root_any _ _ (by assumption) (by assumption)).mono ?_; rintro e w' ⟨rfl, rfl⟩)
    go_ret
    refine ⟨ret_bool ?_, rfl⟩
    rw [Bool.eq_iff_iff]; simp [sqB, h0]
  · have hs : Hid (sqB n = false) := by show _ = _; simp [sqB, h0]
    go_enter Try.func63, Try.ntmps63
    go_wp2
    go_ret
    exact ⟨ret_bool hs.out.symm, rfl⟩
theorem nuSquare_any (n : Int) (w : World) (h1 : n ≤ 900000000000000000) :
    Calls Try.prog 113 #[.int .i64 n] w fun e w' => e = .returned (.bool (sqB n)) ∧ w = w' := by
  by_cases h0 : 0 ≤ n
  · obtain ⟨a, b, c, d⟩ := isqrt_bd h0 h1
    go_enter Try.func113, Try.ntmps113
    go_wp2_with (go_at_call 87; refine (nuRoot_any _ _ (by assumption) (by assumption)).mono ?_; rintro e w' ⟨rfl, rfl⟩)
    go_ret
    refine ⟨ret_bool ?_, rfl⟩
    rw [Bool.eq_iff_iff]; simp [sqB, h0]
  · have hs : Hid (sqB n = false) := by show _ = _; simp [sqB, h0]
    go_enter Try.func113, Try.ntmps113
    go_wp2
    go_ret
    exact ⟨ret_bool hs.out.symm, rfl⟩
end Go.Proofs.Ytladcjoiaoaedaa
