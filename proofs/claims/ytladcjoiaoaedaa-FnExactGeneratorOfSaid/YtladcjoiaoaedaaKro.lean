/-
  The symbols of Jacobi and Kronecker: both ways walked.
-/
import Derived.Test.YtladcjoiaoaedaaJac
import Derived.Test.YtladcjoiaoaedaaNum
import Derived.Test.YtladcjoiaoaedaaEnd
namespace Go.Proofs.Ytladcjoiaoaedaa
open Go.RowKit
attribute [local simp, local go_sem] past_cell past_frozen past_tape
theorem symbolOfTwo_any (n : Int) (w : World) (h : I64 n) (h2 : n % 2 = 1) : Calls Try.prog 101 #[.int .i64 n] w fun en w' => en = .returned (.int .i64 (twoI n)) ∧ w = w' := by
  have HT := Lib.hid (twoI_odd h2)
  have h8 : 0 ≤ n % 8 ∧ n % 8 < 8 := by omega
  rcases (show n % 8 = 1 ∨ n % 8 = 7 ∨ (n % 8 ≠ 1 ∧ n % 8 ≠ 7) by omega) with c | c | ⟨c, c'⟩
  · have HC : Hid (twoI n = 1) := by show _ = _; rw [HT.out, if_pos (.inl c)]
    have hb : (n % 8 == 1) = true := by simp [c]
    clear c
    go_enter Try.func101, Try.ntmps101
    go_wp2_with (go_at_call 78; refine (mod_any _ _ _ h (by omega) (by omega)).mono ?_; rintro e w' ⟨rfl, rfl⟩)
    go_ret
    exact ⟨ret_int (by rw [HC.out]), rfl⟩
  · have HC : Hid (twoI n = 1) := by show _ = _; rw [HT.out, if_pos (.inr c)]
    have hb : (n % 8 == 1) = false := by simp [c]
    have hb' : (n % 8 == 7) = true := by simp [c]
    clear c
    go_enter Try.func101, Try.ntmps101
    go_wp2_with (go_at_call 78; refine (mod_any _ _ _ h (by omega) (by omega)).mono ?_; rintro e w' ⟨rfl, rfl⟩)
    go_ret
    exact ⟨ret_int (by rw [HC.out]), rfl⟩
  · have HC : Hid (twoI n = -1) := by show _ = _; rw [HT.out, if_neg (by omega)]
    have hb : (n % 8 == 1) = false := by simp [c]
    have hb' : (n % 8 == 7) = false := by simp [c']
    clear c c'
    go_enter Try.func101, Try.ntmps101
    go_wp2_with (go_at_call 78; refine (mod_any _ _ _ h (by omega) (by omega)).mono ?_; rintro e w' ⟨rfl, rfl⟩)
    go_ret
    exact ⟨ret_int (by rw [HC.out]), rfl⟩
theorem nat_par {a : Nat} {k : Nat} : ((a : Int) % (k : Int)) = ((a % k : Nat) : Int) := by omega
set_option maxRecDepth 100000 in
set_option maxHeartbeats 4000000 in
theorem jacobi_any (a : Int) (n : Nat) (w : World) (ha : I64 a) (h1 : n % 2 = 1) (h2 : n ≤ 1000000) : Calls Try.prog 102 #[.int .i64 a, .int .i64 (n : Int)] w fun en w' => en = .returned (.int .i64 (jacW a n)) ∧ w = w' := by
  have hm0 := Int.emod_nonneg a (show (n : Int) ≠ 0 by omega)
  have hm1 := Int.emod_lt_of_pos a (show (0 : Int) < n by omega)
  obtain ⟨A, hA⟩ : ∃ A : Nat, a % (n : Int) = A := ⟨(a % (n : Int)).toNat, by omega⟩
  have HJ : Hid (jacW a n = jac A n) := by show _ = _; unfold jacW; rw [hA]; rfl
  have hmod : Hid (∀ w0, Calls Try.prog 78 #[.int .i64 a, .int .i64 (n : Int)] w0 fun en w' => en = .returned (.int .i64 (A : Int)) ∧ w0 = w') := by
    show ∀ w0, _
    intro w0
    have := mod_any a n w0 ha (by omega) (by omega)
    rwa [hA] at this
  rw [hA] at hm0 hm1
  clear hA hm0
  go_enter Try.func102, Try.ntmps102
  go_wp2_with (go_at_call 78; refine (hmod.out _).mono ?_; rintro e w' ⟨rfl, rfl⟩)
  go_loop [0, 1, 5] (fun x y z => ∃ (p q : Nat) (s : Int), x = .int .i64 (p : Int) ∧ y = .int .i64 (q : Int) ∧ z = .int .i64 s ∧ p < q ∧ q ≤ 1000000 ∧ q % 2 = 1 ∧ -1 ≤ s ∧ s ≤ 1 ∧ Hid (s * jac p q = jac A n)) (fun x _ _ => (intOf x).toNat)
  case atStart => exact ⟨A, n, 1, rfl, rfl, rfl, by omega, h2, h1, by omega, by omega, by show _ = _; omega⟩
  case round =>
    obtain ⟨p, q, s, rfl, rfl, rfl, hpq, hq, hodd, hs1, hs2, hj⟩ := hrel
    by_cases hp : p = 0
    · subst hp
      have hz := hj.out
      rw [jac_zero] at hz
      by_cases hq1 : q = 1
      · subst hq1
        have HZ : Hid (jac A n = s) := by show _ = _; rw [← hz, if_pos rfl]; omega
        clear hz
        go_wp2
        go_ret
        exact ⟨ret_int (by rw [HJ.out, HZ.out]), rfl⟩
      · have HZ : Hid (jac A n = 0) := by show _ = _; rw [← hz, if_neg hq1]; omega
        have hq1' : ¬ ((q : Int) = 1) := by omega
        clear hz
        go_wp2
        go_ret
        exact ⟨ret_int (by rw [HJ.out, HZ.out]), rfl⟩
    · have hp' : ¬ ((p : Int) = 0) := by omega
      go_wp2
      go_loop [0, 5] (fun x z => ∃ (p' : Nat) (s : Int), x = .int .i64 (p' : Int) ∧ z = .int .i64 s ∧ 0 < p' ∧ p' ≤ p ∧ -1 ≤ s ∧ s ≤ 1 ∧ Hid (s * jac p' q = jac A n)) (fun x _ => (intOf x).toNat)
      case atStart => exact ⟨p, s, rfl, rfl, by omega, Nat.le_refl _, hs1, hs2, hj.out⟩
      case round =>
        obtain ⟨r, t, rfl, rfl, hr0, hrp, ht1, ht2, hj2⟩ := hrel
        by_cases hr : r % 2 = 0
        · have hr' : (r : Int) % 2 = 0 := by omega
          have hb := bd_one ⟨ht1, ht2⟩ (twoI_bd (q : Int))
          have HN : Hid (t * twoI q * jac (r / 2) q = jac A n) := by
            show _ = _
            rw [← hj2.out, jac_even (by omega) hr, Int.mul_assoc]
          obtain ⟨b1, b2⟩ := hb
          have hq2 : (q : Int) % 2 = 1 := by omega
          go_wp2_with (go_at_call 101; refine (symbolOfTwo_any _ _ ⟨by omega, by omega⟩ hq2).mono ?_; rintro e w' ⟨rfl, rfl⟩)
          go_round
          case rel =>
            go_light
            exact ⟨r / 2, t * twoI q, by go_num, rfl, by omega, by omega, b1, b2, HN.out⟩
          case measure => simp [intOf]; omega
        · have hr' : (r : Int) % 2 = 1 := by omega
          have HN : Hid (t * rcp r q * jac (q % r) r = jac A n) := by
            show _ = _
            rw [← hj2.out, jac_odd (a := r) (n := q) (by omega), Int.mul_assoc]
          have hml := Nat.mod_lt q hr0
          by_cases c : r % 4 = 3 ∧ q % 4 = 3
          · obtain ⟨c1, c2⟩ := c
            have HR : Hid (rcp r q = -1) := by show _ = _; rw [rcp, if_pos ⟨c1, c2⟩]
            have c1' : (r : Int) % 4 = 3 := by omega
            have c2' : (q : Int) % 4 = 3 := by omega
            go_wp2
            go_round
            case rel =>
              go_light
              exact ⟨q % r, r, -t, by go_num, rfl, rfl, hml, by omega, by omega, by omega, by omega, by show _ = _; rw [← HN.out, HR.out]; congr 1; omega⟩
            case measure => simp [intOf]; omega
          · have HR : Hid (rcp r q = 1) := by show _ = _; rw [rcp, if_neg c]
            by_cases c1 : r % 4 = 3
            · have c1' : (r : Int) % 4 = 3 := by omega
              have c2' : ¬ (q : Int) % 4 = 3 := by omega
              clear c
              go_wp2
              go_round
              case rel =>
                go_light
                exact ⟨q % r, r, t, by go_num, rfl, rfl, hml, by omega, by omega, by omega, by omega, by show _ = _; rw [← HN.out, HR.out, Int.mul_one]⟩
              case measure => simp [intOf]; omega
            · have c1' : ¬ (r : Int) % 4 = 3 := by omega
              clear c
              go_wp2
              go_round
              case rel =>
                go_light
                exact ⟨q % r, r, t, by go_num, rfl, rfl, hml, by omega, by omega, by omega, by omega, by show _ = _; rw [← HN.out, HR.out, Int.mul_one]⟩
              case measure => simp [intOf]; omega
theorem kronecker_any (a : Int) (n : Nat) (w : World) (ha : Bd 1000000 a) (h1 : 1 ≤ n) (h2 : n ≤ 1000000) : Calls Try.prog 74 #[.int .i64 a, .int .i64 (n : Int)] w fun en w' => en = .returned (.int .i64 (kro a n)) ∧ w = w' := by
  obtain ⟨a1, a2⟩ := ha
  have hn0 : ¬ (n : Int) = 0 := by omega
  have habs : Hid (∀ w0, Calls Try.prog 100 #[.int .i64 (n : Int)] w0 fun en w' => en = .returned (.int .i64 (n : Int)) ∧ w0 = w') := by
    show ∀ w0, _
    intro w0
    have := abs_nat n w0 ⟨by omega, by omega⟩
    rwa [show ((n : Int).natAbs : Int) = n by omega] at this
  go_enter Try.func74, Try.ntmps74
  go_wp2_with (go_at_call 100; refine (habs.out _).mono ?_; rintro e w' ⟨rfl, rfl⟩)
  go_loop [1, 5] (fun x z => ∃ (q : Nat) (s : Int), x = .int .i64 (q : Int) ∧ z = .int .i64 s ∧ 0 < q ∧ q ≤ n ∧ -1 ≤ s ∧ s ≤ 1 ∧ Hid (s * kro a q = kro a n)) (fun x _ => (intOf x).toNat)
  case atStart => exact ⟨n, 1, rfl, rfl, by omega, Nat.le_refl _, by omega, by omega, by show _ = _; omega⟩
  case round =>
    obtain ⟨q, s, rfl, rfl, hq0, hqn, hs1, hs2, hj⟩ := hrel
    by_cases hq : q % 2 = 0
    · have hq' : (q : Int) % 2 = 0 := by omega
      by_cases ha2 : a % 2 = 0
      · have HZ : Hid (kro a n = 0) := by show _ = _; rw [← hj.out, kro_even (by omega) hq, twoI_even ha2]; omega
        have ht : a.tmod 2 = 0 := Int.tmod_eq_zero_of_dvd (Int.dvd_of_emod_eq_zero ha2)
        have ht' : (a.tmod 2 == 0) = true := by simp [ht]
        clear ht
        go_wp2
        go_ret
        exact ⟨ret_int (by rw [HZ.out]), rfl⟩
      · have ht : ¬ a.tmod 2 = 0 := fun h => ha2 (Int.emod_eq_zero_of_dvd (Int.dvd_of_tmod_eq_zero h))
        have ht' : (a.tmod 2 == 0) = false := by simp [ht]
        have hodd : a % 2 = 1 := by omega
        have HN : Hid (s * twoI a * kro a (q / 2) = kro a n) := by show _ = _; rw [← hj.out, kro_even (by omega) hq, Int.mul_assoc]
        obtain ⟨b1, b2⟩ := bd_one ⟨hs1, hs2⟩ (twoI_bd a)
        clear ht
        go_wp2_with (go_at_call 101; refine (symbolOfTwo_any _ _ ⟨by omega, by omega⟩ hodd).mono ?_; rintro e w' ⟨rfl, rfl⟩)
        go_round
        case rel =>
          go_light
          exact ⟨q / 2, s * twoI a, by go_num, rfl, by omega, by omega, b1, b2, HN.out⟩
        case measure => simp [intOf]; omega
    · have hq' : (q : Int) % 2 = 1 := by omega
      have HN : Hid (s * jacW a q = kro a n) := by show _ = _; rw [← hj.out, kro_odd (by omega)]
      obtain ⟨b1, b2⟩ := bd_one ⟨hs1, hs2⟩ (jacW_bd a q)
      go_wp2_with (go_at_call 102; refine (jacobi_any _ _ _ ⟨by omega, by omega⟩ (by omega) (by omega)).mono ?_; rintro e w' ⟨rfl, rfl⟩)
      go_ret
      exact ⟨ret_int (by rw [← HN.out]), rfl⟩
end Go.Proofs.Ytladcjoiaoaedaa
