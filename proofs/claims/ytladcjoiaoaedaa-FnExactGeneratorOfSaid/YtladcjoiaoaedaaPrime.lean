/-
  Primes, both ways. Printed by mkprime.py.
-/
import Derived.Test.YtladcjoiaoaedaaDiv
namespace Go.Proofs.Ytladcjoiaoaedaa
open Go.RowKit
attribute [local simp, local go_sem] past_cell past_frozen past_tape
/-- No number from 2 to k divides n. -/
def noDiv (n : Int) (k : Nat) : Prop := ∀ d : Nat, 2 ≤ d → d ≤ k → n % (d : Int) ≠ 0
def primeP (n : Int) : Prop := 2 ≤ n ∧ ∀ d : Nat, 2 ≤ d → (d : Int) < n → n % (d : Int) ≠ 0
def primeB (n : Int) : Bool := decide (2 ≤ n) && (List.range n.toNat).all fun d => decide (d < 2) || decide (n % (d : Int) ≠ 0)
theorem primeB_iff (n : Int) : primeB n = true ↔ primeP n := by
  unfold primeB primeP
  rw [Bool.and_eq_true, decide_eq_true_eq, List.all_eq_true]
  constructor
  · rintro ⟨h1, h2⟩
    refine ⟨h1, fun d hd hdn => ?_⟩
    have := h2 d (List.mem_range.2 (by omega))
    simp only [Bool.or_eq_true, decide_eq_true_eq] at this
    omega
  · rintro ⟨h1, h2⟩
    refine ⟨h1, fun d hd => ?_⟩
    have hd := List.mem_range.1 hd
    simp only [Bool.or_eq_true, decide_eq_true_eq]
    by_cases h : d < 2
    · exact .inl h
    · exact .inr (h2 d (by omega) (by omega))
theorem primeB_yes {n : Int} (h : primeP n) : primeB n = true := (primeB_iff n).2 h
theorem primeB_no {n : Int} (h : ¬ primeP n) : primeB n = false := by
  cases c : primeB n with
  | false => rfl
  | true => exact absurd ((primeB_iff n).1 c) h
theorem primeB_ge {n : Int} (h : primeB n = true) : 2 ≤ n := ((primeB_iff n).1 h).1
theorem primeB_lt {n : Int} (h : n < 2) : primeB n = false := primeB_no fun hp => by have := hp.1; omega
theorem primeB_stop {n : Int} {k : Nat} (h2 : 2 ≤ n) (h : noDiv n k) (hk : n < ((k : Int) + 1) * ((k : Int) + 1)) : primeB n = true := by
  refine primeB_yes ⟨h2, fun d hd hdn h0 => ?_⟩
  have hdd : (d : Int) * (n / d) = n := Int.mul_ediv_cancel' (Int.dvd_of_emod_eq_zero h0)
  obtain ⟨q, hq⟩ : ∃ q : Nat, n / (d : Int) = q := ⟨(n / (d : Int)).toNat, by have := Int.ediv_nonneg (show 0 ≤ n by omega) (show (0 : Int) ≤ d by omega); omega⟩
  rw [hq] at hdd
  have hq2 : 2 ≤ q := by
    rcases Nat.lt_or_ge q 2 with h1 | h1
    · rcases (show q = 0 ∨ q = 1 by omega) with rfl | rfl
      · simp at hdd; omega
      · simp at hdd; omega
    · exact h1
  rcases Nat.le_total d k with h1 | h1
  · exact h d hd h1 h0
  · rcases Nat.le_total q k with h3 | h3
    · exact h q hq2 h3 (Int.emod_eq_zero_of_dvd ⟨(d : Int), by rw [Int.mul_comm]; exact hdd.symm⟩)
    · rcases Nat.eq_or_lt_of_le h1 with rfl | h1
      · exact h k hd (Nat.le_refl _) h0
      · rcases Nat.eq_or_lt_of_le h3 with rfl | h3
        · exact h k hq2 (Nat.le_refl _) (Int.emod_eq_zero_of_dvd ⟨(d : Int), by rw [Int.mul_comm]; exact hdd.symm⟩)
        · have := Int.mul_le_mul (show (k : Int) + 1 ≤ d by omega) (show (k : Int) + 1 ≤ q by omega) (by omega) (by omega)
          omega
theorem primeB_hit {n : Int} {d : Nat} (hd : 2 ≤ d) (hdn : (d : Int) * d ≤ n) (h : n % (d : Int) = 0) : primeB n = false := by
  refine primeB_no fun hp => hp.2 d hd ?_ h
  have := Int.mul_le_mul_of_nonneg_left (show (2 : Int) ≤ d by omega) (show (0 : Int) ≤ d by omega)
  omega
set_option maxRecDepth 100000 in
set_option maxHeartbeats 4000000 in
theorem isPrime_any (n : Int) (w : World) (hn : n ≤ 1000000) : Calls Try.prog 52 #[.int .i64 n] w fun en w' => en = .returned (.bool (primeB n)) ∧ w = w' := by
  by_cases h2 : n < 2
  · have HG := Lib.hid (primeB_lt h2)
    rw [HG.out]
    go_enter Try.func52, Try.ntmps52
    go_wp2
    go_ret
    exact ⟨rfl, rfl⟩
  · go_enter Try.func52, Try.ntmps52
    go_wp2
    go_loop [3] (fun i => ∃ k : Nat, i = .int .i64 ((k : Int) + 1) ∧ 1 ≤ k ∧ k ≤ 1000 ∧ Hid (noDiv n k)) (fun i => (n + 1 - intOf i).toNat)
    case atStart => exact ⟨1, by go_num, by omega, by omega, fun d hd hd1 => absurd hd1 (by omega)⟩
    case round =>
      obtain ⟨k, rfl, hk1, hk2, hno⟩ := hrel
      by_cases hlt : ((k : Int) + 1) * ((k : Int) + 1) ≤ n
      · have hself' : (k : Int) + 1 ≤ ((k : Int) + 1) * ((k : Int) + 1) := self_le_sq (k + 1)
        have hk2 : k + 1 ≤ 1000 := by
          rcases Nat.lt_or_ge 1000 (k + 1) with h | h
          · have := sq_le_sq (show (0 : Int) ≤ 1001 by omega) (show (1001 : Int) ≤ (k : Int) + 1 by omega)
            omega
          · exact h
        by_cases hd : n % ((k : Int) + 1) = 0
        · have HG : Hid (primeB n = false) := Lib.hid (primeB_hit (d := k + 1) (by omega) (by rw [show ((k + 1 : Nat) : Int) = (k : Int) + 1 by omega]; exact hlt) (by rw [show ((k + 1 : Nat) : Int) = (k : Int) + 1 by omega]; exact hd))
          go_wp2
          go_ret
          exact ⟨ret_bool HG.out.symm, rfl⟩
        · have HN : Hid (noDiv n (k + 1)) := by
            show ∀ d, _
            intro d hd2 hdk
            rcases Nat.eq_or_lt_of_le hdk with rfl | h
            · rw [show ((k + 1 : Nat) : Int) = (k : Int) + 1 by omega]; exact hd
            · exact hno.out d hd2 (by omega)
          go_wp2
          go_round
          case rel =>
            go_light
            exact ⟨k + 1, by go_num, by omega, hk2, HN.out⟩
          case measure => simp [intOf]; omega
      · have hlt' : n < ((k : Int) + 1) * ((k : Int) + 1) := Int.not_le.1 hlt
        clear hlt
        have HG : Hid (primeB n = true) := Lib.hid (primeB_stop (by omega) hno.out hlt')
        have hX0 := sq_le_sq (show (0 : Int) ≤ (k : Int) + 1 by omega) (show (k : Int) + 1 ≤ 1001 by omega)
        have hX : ((k : Int) + 1) * ((k : Int) + 1) ≤ 1002001 := by omega
        clear hX0
        have hWr : wrap64 (((k : Int) + 1) * ((k : Int) + 1)) = ((k : Int) + 1) * ((k : Int) + 1) := by unfold wrap64; omega
        have hdec : decide (((k : Int) + 1) * ((k : Int) + 1) ≤ n) = false := by simp; omega
        clear hX
        go_wp2
        go_ret
        exact ⟨ret_bool HG.out.symm, rfl⟩
set_option maxRecDepth 100000 in
set_option maxHeartbeats 4000000 in
theorem nuPrime_any (n : Int) (w : World) (hn : n ≤ 1000000) : Calls Try.prog 50 #[.int .i64 n] w fun en w' => en = .returned (.bool (primeB n)) ∧ w = w' := by
  by_cases h2 : n < 2
  · have HG := Lib.hid (primeB_lt h2)
    rw [HG.out]
    go_enter Try.func50, Try.ntmps50
    go_wp2
    go_ret
    exact ⟨rfl, rfl⟩
  · go_enter Try.func50, Try.ntmps50
    go_wp2
    go_loop [3] (fun i => ∃ k : Nat, i = .int .i64 ((k : Int) + 1) ∧ 1 ≤ k ∧ k ≤ 1000 ∧ Hid (noDiv n k)) (fun i => (n + 1 - intOf i).toNat)
    case atStart => exact ⟨1, by go_num, by omega, by omega, fun d hd hd1 => absurd hd1 (by omega)⟩
    case round =>
      obtain ⟨k, rfl, hk1, hk2, hno⟩ := hrel
      by_cases hlt : ((k : Int) + 1) * ((k : Int) + 1) ≤ n
      · have hself' : (k : Int) + 1 ≤ ((k : Int) + 1) * ((k : Int) + 1) := self_le_sq (k + 1)
        have hk2 : k + 1 ≤ 1000 := by
          rcases Nat.lt_or_ge 1000 (k + 1) with h | h
          · have := sq_le_sq (show (0 : Int) ≤ 1001 by omega) (show (1001 : Int) ≤ (k : Int) + 1 by omega)
            omega
          · exact h
        by_cases hd : n % ((k : Int) + 1) = 0
        · have HG : Hid (primeB n = false) := Lib.hid (primeB_hit (d := k + 1) (by omega) (by rw [show ((k + 1 : Nat) : Int) = (k : Int) + 1 by omega]; exact hlt) (by rw [show ((k + 1 : Nat) : Int) = (k : Int) + 1 by omega]; exact hd))
          go_wp2
          go_ret
          exact ⟨ret_bool HG.out.symm, rfl⟩
        · have HN : Hid (noDiv n (k + 1)) := by
            show ∀ d, _
            intro d hd2 hdk
            rcases Nat.eq_or_lt_of_le hdk with rfl | h
            · rw [show ((k + 1 : Nat) : Int) = (k : Int) + 1 by omega]; exact hd
            · exact hno.out d hd2 (by omega)
          go_wp2
          go_round
          case rel =>
            go_light
            exact ⟨k + 1, by go_num, by omega, hk2, HN.out⟩
          case measure => simp [intOf]; omega
      · have hlt' : n < ((k : Int) + 1) * ((k : Int) + 1) := Int.not_le.1 hlt
        clear hlt
        have HG : Hid (primeB n = true) := Lib.hid (primeB_stop (by omega) hno.out hlt')
        have hX0 := sq_le_sq (show (0 : Int) ≤ (k : Int) + 1 by omega) (show (k : Int) + 1 ≤ 1001 by omega)
        have hX : ((k : Int) + 1) * ((k : Int) + 1) ≤ 1002001 := by omega
        clear hX0
        have hWr : wrap64 (((k : Int) + 1) * ((k : Int) + 1)) = ((k : Int) + 1) * ((k : Int) + 1) := by unfold wrap64; omega
        have hdec : decide (((k : Int) + 1) * ((k : Int) + 1) ≤ n) = false := by simp; omega
        clear hX
        go_wp2
        go_ret
        exact ⟨ret_bool HG.out.symm, rfl⟩
end Go.Proofs.Ytladcjoiaoaedaa
