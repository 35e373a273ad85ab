/-
  The symbols of Jacobi and Kronecker: both ways walked.
-/
import Derived.Test.YtdahpjbpcdfhkaaJac
import Derived.Test.YtdahpjbpcdfhkaaNum
import Derived.Test.YtdahpjbpcdfhkaaEnd
namespace Go.Proofs.Ytdahpjbpcdfhkaa
open Go.RowKit
attribute [local simp, local go_sem] past_cell past_frozen past_tape
theorem symbolOfTwo_any (n : Int) (w : World) (h : I64 n) (h2 : n % 2 = 1) : Calls Try.prog 67 #[.int .i64 n] w fun en w' => en = .returned (.int .i64 (twoI n)) ∧ w = w' := by
  have HT := Lib.hid (twoI_odd h2)
  have h8 : 0 ≤ n % 8 ∧ n % 8 < 8 := by omega
  rcases (show n % 8 = 1 ∨ n % 8 = 7 ∨ (n % 8 ≠ 1 ∧ n % 8 ≠ 7) by omega) with c | c | ⟨c, c'⟩
  · have HC : Hid (twoI n = 1) := by show _ = _; rw [HT.out, if_pos (.inl c)]
    have hb : (n % 8 == 1) = true := by simp [c]
    clear c
    go_enter Try.func67, Try.ntmps67
    go_wp2_with (go_at_call 61; refine (mod_any _ _ _ h (by omega) (by omega)).mono ?_; rintro e w' ⟨rfl, rfl⟩)
    go_ret
    exact ⟨ret_int (by rw [HC.out]), rfl⟩
  · have HC : Hid (twoI n = 1) := by show _ = _; rw [HT.out, if_pos (.inr c)]
    have hb : (n % 8 == 1) = false := by simp [c]
    have hb' : (n % 8 == 7) = true := by simp [c]
    clear c
    go_enter Try.func67, Try.ntmps67
    go_wp2_with (go_at_call 61; refine (mod_any _ _ _ h (by omega) (by omega)).mono ?_; rintro e w' ⟨rfl, rfl⟩)
    go_ret
    exact ⟨ret_int (by rw [HC.out]), rfl⟩
  · have HC : Hid (twoI n = -1) := by show _ = _; rw [HT.out, if_neg (by omega)]
    have hb : (n % 8 == 1) = false := by simp [c]
    have hb' : (n % 8 == 7) = false := by simp [c']
    clear c c'
    go_enter Try.func67, Try.ntmps67
    go_wp2_with (go_at_call 61; refine (mod_any _ _ _ h (by omega) (by omega)).mono ?_; rintro e w' ⟨rfl, rfl⟩)
    go_ret
    exact ⟨ret_int (by rw [HC.out]), rfl⟩
theorem syTwo_any (n : Int) (w : World) (h : I64 n) : Calls Try.prog 64 #[.int .i64 n] w fun en w' => en = .returned (.int .i64 (twoI n)) ∧ w = w' := by
  have h8 : n % 8 = 0 ∨ n % 8 = 1 ∨ n % 8 = 2 ∨ n % 8 = 3 ∨ n % 8 = 4 ∨ n % 8 = 5 ∨ n % 8 = 6 ∨ n % 8 = 7 := by omega
  rcases h8 with c | c | c | c | c | c | c | c
  all_goals
    first | have HT : Hid (twoI n = 1) := Lib.hid (by unfold twoI; rw [if_pos (by omega)]) | have HT : Hid (twoI n = -1) := Lib.hid (by unfold twoI; rw [if_neg (by omega), if_pos (by omega)]) | have HT : Hid (twoI n = 0) := Lib.hid (by unfold twoI; rw [if_neg (by omega), if_neg (by omega)])
    go_enter Try.func64, Try.ntmps64
    go_wp2_with (go_at_call 59; refine (nuMod_any _ _ _ h (by omega) (by omega)).mono ?_; rintro e w' ⟨rfl, rfl⟩)
    go_ret
    exact ⟨ret_int (by rw [HT.out]; try rfl), rfl⟩
theorem nat_par {a : Nat} {k : Nat} : ((a : Int) % (k : Int)) = ((a % k : Nat) : Int) := by omega
set_option maxRecDepth 100000 in
set_option maxHeartbeats 4000000 in
theorem jacobi_any (a : Int) (n : Nat) (w : World) (ha : I64 a) (h1 : n % 2 = 1) (h2 : n ≤ 1000000) : Calls Try.prog 68 #[.int .i64 a, .int .i64 (n : Int)] w fun en w' => en = .returned (.int .i64 (jacW a n)) ∧ w = w' := by
  have hm0 := Int.emod_nonneg a (show (n : Int) ≠ 0 by omega)
  have hm1 := Int.emod_lt_of_pos a (show (0 : Int) < n by omega)
  obtain ⟨A, hA⟩ : ∃ A : Nat, a % (n : Int) = A := ⟨(a % (n : Int)).toNat, by omega⟩
  have HJ : Hid (jacW a n = jac A n) := by show _ = _; unfold jacW; rw [hA]; rfl
  have hmod : Hid (∀ w0, Calls Try.prog 61 #[.int .i64 a, .int .i64 (n : Int)] w0 fun en w' => en = .returned (.int .i64 (A : Int)) ∧ w0 = w') := by
    show ∀ w0, _
    intro w0
    have := mod_any a n w0 ha (by omega) (by omega)
    rwa [hA] at this
  rw [hA] at hm0 hm1
  clear hA hm0
  go_enter Try.func68, Try.ntmps68
  go_wp2_with (go_at_call 61; refine (hmod.out _).mono ?_; rintro e w' ⟨rfl, rfl⟩)
  go_loop [0, 1, 5] (fun x y z => ∃ (p q : Nat) (s : Int), x = .int .i64 (p : Int) ∧ y = .int .i64 (q : Int) ∧ z = .int .i64 s ∧ p < q ∧ q ≤ 1000000 ∧ q % 2 = 1 ∧ -1 ≤ s ∧ s ≤ 1 ∧ Hid (s * jac p q = jac A n)) (fun x _ _ => (intOf x).toNat)
  case atStart => exact ⟨A, n, 1, rfl, rfl, rfl, by omega, h2, h1, by omega, by omega, by show _ = _; omega⟩
  case round =>
    obtain ⟨p, q, s, rfl, rfl, rfl, hpq, hq, hodd, hs1, hs2, hj⟩ := hrel
    by_cases hp : p = 0
    · subst hp
      have hz := hj.out
      rw [jac_zero] at hz
      by_cases hq1 : q = 1
      · subst hq1
        have HZ : Hid (jac A n = s) := by show _ = _; rw [← hz, if_pos rfl]; omega
        clear hz
        go_wp2
        go_ret
        exact ⟨ret_int (by rw [HJ.out, HZ.out]), rfl⟩
      · have HZ : Hid (jac A n = 0) := by show _ = _; rw [← hz, if_neg hq1]; omega
        have hq1' : ¬ ((q : Int) = 1) := by omega
        clear hz
        go_wp2
        go_ret
        exact ⟨ret_int (by rw [HJ.out, HZ.out]), rfl⟩
    · have hp' : ¬ ((p : Int) = 0) := by omega
      go_wp2
      go_loop [0, 5] (fun x z => ∃ (p' : Nat) (s : Int), x = .int .i64 (p' : Int) ∧ z = .int .i64 s ∧ 0 < p' ∧ p' ≤ p ∧ -1 ≤ s ∧ s ≤ 1 ∧ Hid (s * jac p' q = jac A n)) (fun x _ => (intOf x).toNat)
      case atStart => exact ⟨p, s, rfl, rfl, by omega, Nat.le_refl _, hs1, hs2, hj.out⟩
      case round =>
        obtain ⟨r, t, rfl, rfl, hr0, hrp, ht1, ht2, hj2⟩ := hrel
        by_cases hr : r % 2 = 0
        · have hr' : (r : Int) % 2 = 0 := by omega
          have hb := bd_one ⟨ht1, ht2⟩ (twoI_bd (q : Int))
          have HN : Hid (t * twoI q * jac (r / 2) q = jac A n) := by
            show _ = _
            rw [← hj2.out, jac_even (by omega) hr, Int.mul_assoc]
          obtain ⟨b1, b2⟩ := hb
          have hq2 : (q : Int) % 2 = 1 := by omega
          go_wp2_with (go_at_call 67; refine (symbolOfTwo_any _ _ ⟨by omega, by omega⟩ hq2).mono ?_; rintro e w' ⟨rfl, rfl⟩)
          go_round
          case rel =>
            go_light
            exact ⟨r / 2, t * twoI q, by go_num, rfl, by omega, by omega, b1, b2, HN.out⟩
          case measure => simp [intOf]; omega
        · have hr' : (r : Int) % 2 = 1 := by omega
          have HN : Hid (t * rcp r q * jac (q % r) r = jac A n) := by
            show _ = _
            rw [← hj2.out, jac_odd (a := r) (n := q) (by omega), Int.mul_assoc]
          have hml := Nat.mod_lt q hr0
          by_cases c : r % 4 = 3 ∧ q % 4 = 3
          · obtain ⟨c1, c2⟩ := c
            have HR : Hid (rcp r q = -1) := by show _ = _; rw [rcp, if_pos ⟨c1, c2⟩]
            have c1' : (r : Int) % 4 = 3 := by omega
            have c2' : (q : Int) % 4 = 3 := by omega
            go_wp2
            go_round
            case rel =>
              go_light
              exact ⟨q % r, r, -t, by go_num, rfl, rfl, hml, by omega, by omega, by omega, by omega, by show _ = _; rw [← HN.out, HR.out]; congr 1; omega⟩
            case measure => simp [intOf]; omega
          · have HR : Hid (rcp r q = 1) := by show _ = _; rw [rcp, if_neg c]
            by_cases c1 : r % 4 = 3
            · have c1' : (r : Int) % 4 = 3 := by omega
              have c2' : ¬ (q : Int) % 4 = 3 := by omega
              clear c
              go_wp2
              go_round
              case rel =>
                go_light
                exact ⟨q % r, r, t, by go_num, rfl, rfl, hml, by omega, by omega, by omega, by omega, by show _ = _; rw [← HN.out, HR.out, Int.mul_one]⟩
              case measure => simp [intOf]; omega
            · have c1' : ¬ (r : Int) % 4 = 3 := by omega
              clear c
              go_wp2
              go_round
              case rel =>
                go_light
                exact ⟨q % r, r, t, by go_num, rfl, rfl, hml, by omega, by omega, by omega, by omega, by show _ = _; rw [← HN.out, HR.out, Int.mul_one]⟩
              case measure => simp [intOf]; omega
theorem kronecker_any (a : Int) (n : Nat) (w : World) (ha : Bd 1000000 a) (h1 : 1 ≤ n) (h2 : n ≤ 1000000) : Calls Try.prog 40 #[.int .i64 a, .int .i64 (n : Int)] w fun en w' => en = .returned (.int .i64 (kro a n)) ∧ w = w' := by
  obtain ⟨a1, a2⟩ := ha
  have hn0 : ¬ (n : Int) = 0 := by omega
  have habs : Hid (∀ w0, Calls Try.prog 66 #[.int .i64 (n : Int)] w0 fun en w' => en = .returned (.int .i64 (n : Int)) ∧ w0 = w') := by
    show ∀ w0, _
    intro w0
    have := abs_nat n w0 ⟨by omega, by omega⟩
    rwa [show ((n : Int).natAbs : Int) = n by omega] at this
  go_enter Try.func40, Try.ntmps40
  go_wp2_with (go_at_call 66; refine (habs.out _).mono ?_; rintro e w' ⟨rfl, rfl⟩)
  go_loop [1, 5] (fun x z => ∃ (q : Nat) (s : Int), x = .int .i64 (q : Int) ∧ z = .int .i64 s ∧ 0 < q ∧ q ≤ n ∧ -1 ≤ s ∧ s ≤ 1 ∧ Hid (s * kro a q = kro a n)) (fun x _ => (intOf x).toNat)
  case atStart => exact ⟨n, 1, rfl, rfl, by omega, Nat.le_refl _, by omega, by omega, by show _ = _; omega⟩
  case round =>
    obtain ⟨q, s, rfl, rfl, hq0, hqn, hs1, hs2, hj⟩ := hrel
    by_cases hq : q % 2 = 0
    · have hq' : (q : Int) % 2 = 0 := by omega
      by_cases ha2 : a % 2 = 0
      · have HZ : Hid (kro a n = 0) := by show _ = _; rw [← hj.out, kro_even (by omega) hq, twoI_even ha2]; omega
        have ht : a.tmod 2 = 0 := Int.tmod_eq_zero_of_dvd (Int.dvd_of_emod_eq_zero ha2)
        have ht' : (a.tmod 2 == 0) = true := by simp [ht]
        clear ht
        go_wp2
        go_ret
        exact ⟨ret_int (by rw [HZ.out]), rfl⟩
      · have ht : ¬ a.tmod 2 = 0 := fun h => ha2 (Int.emod_eq_zero_of_dvd (Int.dvd_of_tmod_eq_zero h))
        have ht' : (a.tmod 2 == 0) = false := by simp [ht]
        have hodd : a % 2 = 1 := by omega
        have HN : Hid (s * twoI a * kro a (q / 2) = kro a n) := by show _ = _; rw [← hj.out, kro_even (by omega) hq, Int.mul_assoc]
        obtain ⟨b1, b2⟩ := bd_one ⟨hs1, hs2⟩ (twoI_bd a)
        clear ht
        go_wp2_with (go_at_call 67; refine (symbolOfTwo_any _ _ ⟨by omega, by omega⟩ hodd).mono ?_; rintro e w' ⟨rfl, rfl⟩)
        go_round
        case rel =>
          go_light
          exact ⟨q / 2, s * twoI a, by go_num, rfl, by omega, by omega, b1, b2, HN.out⟩
        case measure => simp [intOf]; omega
    · have hq' : (q : Int) % 2 = 1 := by omega
      have HN : Hid (s * jacW a q = kro a n) := by show _ = _; rw [← hj.out, kro_odd (by omega)]
      obtain ⟨b1, b2⟩ := bd_one ⟨hs1, hs2⟩ (jacW_bd a q)
      go_wp2_with (go_at_call 68; refine (jacobi_any _ _ _ ⟨by omega, by omega⟩ (by omega) (by omega)).mono ?_; rintro e w' ⟨rfl, rfl⟩)
      go_ret
      exact ⟨ret_int (by rw [← HN.out]), rfl⟩
theorem syEnd_any (t b s : Int) (w : World) : Calls Try.prog 72 #[.agg #[.int .i64 t, .int .i64 b, .int .i64 s]] w fun en w' => en = .returned (.bool (decide (t = 0) || decide (t = 1))) ∧ Below w.heap.size w w' := by
  by_cases h0 : t = 0
  · subst h0
    go_enter Try.func72, Try.ntmps72
    go_wp2
    go_ret
    exact ⟨rfl, (Below.refl _ _).alloc (Nat.le_refl _) _⟩
  · have HD : Hid ((decide (t = 0) || decide (t = 1)) = (t == 1)) := by show _ = _; rw [decide_eq_false h0, Bool.false_or]; rfl
    have hb : (t == 0) = false := by simp [h0]
    clear h0
    go_enter Try.func72, Try.ntmps72
    go_wp2
    all_goals
      go_ret
      exact ⟨ret_bool (by rw [HD.out]; try rfl), (Below.refl _ _).alloc (Nat.le_refl _) _⟩
theorem l1In_of {n lo hi : Int} (h : lo ≤ n ∧ n ≤ hi) : inB n lo hi = true := decide_eq_true h
theorem l1In_not {n lo hi : Int} (h : ¬ (lo ≤ n ∧ n ≤ hi)) : inB n lo hi = false := decide_eq_false h
set_option maxHeartbeats 2000000 in
theorem sySuccessor_mod (t b s : Int) (w : World) (ht : Bd 1000000 t) (hb1 : 1 ≤ b) (hb2 : b ≤ 1000000) (h : t < 0 ∨ b ≤ t) : Calls Try.prog 73 #[.agg #[.int .i64 t, .int .i64 b, .int .i64 s]] w fun en w' => en = .returned (.agg #[.int .i64 (t % b), .int .i64 b, .int .i64 s]) ∧ Below w.heap.size w w' := by
  have hin : inB t 0 (b - 1) = false := l1In_not (by omega)
  obtain ⟨t1, t2⟩ := ht
  go_enter Try.func73, Try.ntmps73
  go_wp2_with (first | (go_at_call 56; refine (l1In_any _ _ _ _).mono ?_; rintro e w' ⟨rfl, rfl⟩) | (go_at_call 59; refine (nuMod_any _ _ _ ⟨by omega, by omega⟩ (by omega) (by omega)).mono ?_; rintro e w' ⟨rfl, rfl⟩))
  (refine bodyPost_ret (v := .agg #[.int .i64 (t % b), .int .i64 b, .int .i64 s]) ?_ rfl ⟨?_, ?_⟩; (focus (go_light; first | (simp [results, Try.results73, go_sem, *]; done) | (simp (disch := first | omega | (simp <;> omega) | (refine isSome_of ?_ ?_; (focus ((repeat (first | ((with_reducible refine (cell_alloc_old _ _ _ _ ?_).trans ?_); (focus (first | omega | (simp <;> omega)))) | ((with_reducible refine (bG (by assumption) ?_).trans ?_); (focus (first | omega | (simp <;> omega)))))); exact rfl)); simp [go_sem]) | fail) [results, Try.results73, go_sem, *]; done))); (focus (rfl)); repeat (first | with_reducible exact Below.refl _ _ | with_reducible assumption | ((with_reducible refine blA ?_ ?_); (focus (first | omega | (simp <;> omega)))) | (with_reducible refine blD ?_) | (with_reducible refine blN ?_) | ((with_reducible refine blS ?_ ?_); (focus (first | omega | (simp <;> omega)))) | ((with_reducible refine blT (by assumption) ?_ ?_); (focus (first | omega | (simp <;> omega))))))
set_option maxHeartbeats 2000000 in
theorem sySuccessor_even (t b : Nat) (s : Int) (w : World) (htb : t < b) (hb2 : b ≤ 1000000) (h : t % 2 = 0) (hs1 : -1 ≤ s) (hs2 : s ≤ 1) : Calls Try.prog 73 #[.agg #[.int .i64 (t : Int), .int .i64 (b : Int), .int .i64 s]] w fun en w' => en = .returned (.agg #[.int .i64 ((t / 2 : Nat) : Int), .int .i64 (b : Int), .int .i64 (s * twoI b)]) ∧ Below w.heap.size w w' := by
  have hin : inB (t : Int) 0 ((b : Int) - 1) = true := l1In_of (by omega)
  have h' : (t : Int) % 2 = 0 := by omega
  obtain ⟨b1, b2⟩ := bd_one ⟨hs1, hs2⟩ (twoI_bd (b : Int))
  have htwo : Hid (∀ w0, Calls Try.prog 64 #[.int .i64 (b : Int)] w0 fun en w' => en = .returned (.int .i64 (twoI b)) ∧ w0 = w') := fun w0 => syTwo_any b w0 ⟨by omega, by omega⟩
  generalize twoI (b : Int) = q at *
  go_enter Try.func73, Try.ntmps73
  go_wp2_with (go_at_call 56; refine (l1In_any _ _ _ _).mono ?_; rintro e w' ⟨rfl, rfl⟩)
  refine wp_region_past_tail 7 (by kernel_rfl) (by kernel_rfl) ?_
  simp only [List.take_succ_cons, List.take_zero, List.drop_succ_cons, List.drop_zero]
  repeat (first | go_big_quiet_skip | (go_big_quiet_want; go_big_quiet_op; first | go_big_quiet_on | (apply Exists.intro; refine ⟨fun _ => ?_, ?_⟩; (focus ((go_at_call 64; exact past_same (htwo.out _)))); go_big_quiet_on)))
  refine wpQuiet_nil ?_
  intro w1 hw'
  have hB1 := past_below hw'
  clear hw'
  obtain ⟨hC1, hF1⟩ := bcell hB1
  have hS1 := hB1.size
  (try simp at hS1)
  (try have hS1_w0 : w.heap.size < w1.heap.size := by omega)
  (try have hS1_w1 : w.heap.size + 1 < w1.heap.size := by omega)
  (try have hS1_w2 : w.heap.size + 1 + 1 < w1.heap.size := by omega)
  (try have hS1_w3 : w.heap.size + 1 + 1 + 1 < w1.heap.size := by omega)
  (try have hS1_w4 : w.heap.size + 1 + 1 + 1 + 1 < w1.heap.size := by omega)
  have hR1 : ∀ o, w1.cell? ⟨w.heap.size, o, none⟩ = (#[.int .i64 ((t : Int) / 2), .int .i64 (b : Int), .int .i64 s] : Array Value)[o]? := by (intro o; (repeat (first | ((with_reducible refine (cell_alloc_old _ _ _ _ ?_).trans ?_); (focus (first | omega | (simp <;> omega)))) | ((with_reducible refine (bC (by assumption) ?_).trans ?_); (focus (first | omega | (simp <;> omega)))) | ((with_reducible refine (bG (by assumption) ?_).trans ?_); (focus (first | omega | (simp <;> omega)))))); simp [go_sem])
  have hF1' : ∀ o, w1.frozen? ⟨w.heap.size, o, none⟩ = false := by (intro o; (repeat (first | ((with_reducible refine (frozen_alloc_old _ _ _ _ ?_).trans ?_); (focus (first | omega | (simp <;> omega)))) | ((with_reducible refine (fG (by assumption) ?_).trans ?_); (focus (first | omega | (simp <;> omega)))))); simp [go_sem])
  have hR2 : ∀ o, w1.cell? ⟨w.heap.size + 1, o, none⟩ = (#[.int .i64 0, .int .i64 0, .int .i64 0] : Array Value)[o]? := by (intro o; (repeat (first | ((with_reducible refine (cell_alloc_old _ _ _ _ ?_).trans ?_); (focus (first | omega | (simp <;> omega)))) | ((with_reducible refine (bC (by assumption) ?_).trans ?_); (focus (first | omega | (simp <;> omega)))) | ((with_reducible refine (bG (by assumption) ?_).trans ?_); (focus (first | omega | (simp <;> omega)))))); simp [go_sem])
  have hF2' : ∀ o, w1.frozen? ⟨w.heap.size + 1, o, none⟩ = false := by (intro o; (repeat (first | ((with_reducible refine (frozen_alloc_old _ _ _ _ ?_).trans ?_); (focus (first | omega | (simp <;> omega)))) | ((with_reducible refine (fG (by assumption) ?_).trans ?_); (focus (first | omega | (simp <;> omega)))))); simp [go_sem])
  have hBW : Below w.heap.size w w1 := by repeat (first | with_reducible exact Below.refl _ _ | with_reducible assumption | ((with_reducible refine blA ?_ ?_); (focus (first | omega | (simp <;> omega)))) | (with_reducible refine blD ?_) | (with_reducible refine blN ?_) | ((with_reducible refine blS ?_ ?_); (focus (first | omega | (simp <;> omega)))) | ((with_reducible refine blT (by assumption) ?_ ?_); (focus (first | omega | (simp <;> omega)))))
  clear hB1 hC1 hF1
  go_wp2
  (refine bodyPost_ret (v := .agg #[.int .i64 ((t / 2 : Nat) : Int), .int .i64 (b : Int), .int .i64 (s * q)]) ?_ rfl ⟨?_, ?_⟩; (focus (go_light; first | (simp [results, Try.results73, go_sem, *]; done) | (simp (disch := first | omega | (simp <;> omega) | (refine isSome_of ?_ ?_; (focus ((repeat (first | ((with_reducible refine (cell_alloc_old _ _ _ _ ?_).trans ?_); (focus (first | omega | (simp <;> omega)))) | ((with_reducible refine (bG (by assumption) ?_).trans ?_); (focus (first | omega | (simp <;> omega)))))); exact rfl)); simp [go_sem]) | fail) [results, Try.results73, go_sem, *]; done))); (focus (rfl)); repeat (first | with_reducible exact Below.refl _ _ | with_reducible assumption | ((with_reducible refine blA ?_ ?_); (focus (first | omega | (simp <;> omega)))) | (with_reducible refine blD ?_) | (with_reducible refine blN ?_) | ((with_reducible refine blS ?_ ?_); (focus (first | omega | (simp <;> omega)))) | ((with_reducible refine blT (by assumption) ?_ ?_); (focus (first | omega | (simp <;> omega))))))
set_option maxHeartbeats 2000000 in
theorem sySuccessor_odd (t b : Nat) (s : Int) (w : World) (htb : t < b) (hb2 : b ≤ 1000000) (h : t % 2 = 1) (hs1 : -1 ≤ s) (hs2 : s ≤ 1) : Calls Try.prog 73 #[.agg #[.int .i64 (t : Int), .int .i64 (b : Int), .int .i64 s]] w fun en w' => en = .returned (.agg #[.int .i64 (b : Int), .int .i64 (t : Int), .int .i64 (s * rcp t b)]) ∧ Below w.heap.size w w' := by
  have hin : inB (t : Int) 0 ((b : Int) - 1) = true := l1In_of (by omega)
  have h' : (t : Int) % 2 = 1 := by omega
  by_cases c1 : t % 4 = 3
  · have c1' : (t : Int) % 4 = 3 := by omega
    by_cases c2 : b % 4 = 3
    · have c2' : (b : Int) % 4 = 3 := by omega
      have HR : Hid (s * rcp t b = -s) := by show _ = _; rw [rcp, if_pos ⟨c1, c2⟩]; omega
      go_enter Try.func73, Try.ntmps73
      go_wp2_with (go_at_call 56; refine (l1In_any _ _ _ _).mono ?_; rintro e w' ⟨rfl, rfl⟩)
      (refine bodyPost_ret (v := .agg #[.int .i64 (b : Int), .int .i64 (t : Int), .int .i64 (-s)]) ?_ rfl ⟨?_, ?_⟩; (focus (go_light; first | (simp [results, Try.results73, go_sem, *]; done) | (simp (disch := first | omega | (simp <;> omega) | (refine isSome_of ?_ ?_; (focus ((repeat (first | ((with_reducible refine (cell_alloc_old _ _ _ _ ?_).trans ?_); (focus (first | omega | (simp <;> omega)))) | ((with_reducible refine (bG (by assumption) ?_).trans ?_); (focus (first | omega | (simp <;> omega)))))); exact rfl)); simp [go_sem]) | fail) [results, Try.results73, go_sem, *]; done))); (focus (go_light; rw [HR.out])); repeat (first | with_reducible exact Below.refl _ _ | with_reducible assumption | ((with_reducible refine blA ?_ ?_); (focus (first | omega | (simp <;> omega)))) | (with_reducible refine blD ?_) | (with_reducible refine blN ?_) | ((with_reducible refine blS ?_ ?_); (focus (first | omega | (simp <;> omega)))) | ((with_reducible refine blT (by assumption) ?_ ?_); (focus (first | omega | (simp <;> omega))))))
    · have c2' : ¬ (b : Int) % 4 = 3 := by omega
      have c2b : ((b : Int) % 4 == 3) = false := by simp [c2']
      have HR : Hid (s * rcp t b = s) := by show _ = _; rw [rcp, if_neg (fun h => c2 h.2)]; omega
      go_enter Try.func73, Try.ntmps73
      go_wp2_with (go_at_call 56; refine (l1In_any _ _ _ _).mono ?_; rintro e w' ⟨rfl, rfl⟩)
      (refine bodyPost_ret (v := .agg #[.int .i64 (b : Int), .int .i64 (t : Int), .int .i64 s]) ?_ rfl ⟨?_, ?_⟩; (focus (go_light; first | (simp [results, Try.results73, go_sem, *]; done) | (simp (disch := first | omega | (simp <;> omega) | (refine isSome_of ?_ ?_; (focus ((repeat (first | ((with_reducible refine (cell_alloc_old _ _ _ _ ?_).trans ?_); (focus (first | omega | (simp <;> omega)))) | ((with_reducible refine (bG (by assumption) ?_).trans ?_); (focus (first | omega | (simp <;> omega)))))); exact rfl)); simp [go_sem]) | fail) [results, Try.results73, go_sem, *]; done))); (focus (go_light; rw [HR.out])); repeat (first | with_reducible exact Below.refl _ _ | with_reducible assumption | ((with_reducible refine blA ?_ ?_); (focus (first | omega | (simp <;> omega)))) | (with_reducible refine blD ?_) | (with_reducible refine blN ?_) | ((with_reducible refine blS ?_ ?_); (focus (first | omega | (simp <;> omega)))) | ((with_reducible refine blT (by assumption) ?_ ?_); (focus (first | omega | (simp <;> omega))))))
  · have c1' : ¬ (t : Int) % 4 = 3 := by omega
    have c1b : ((t : Int) % 4 == 3) = false := by simp [c1']
    have HR : Hid (s * rcp t b = s) := by show _ = _; rw [rcp, if_neg (fun h => c1 h.1)]; omega
    go_enter Try.func73, Try.ntmps73
    go_wp2_with (go_at_call 56; refine (l1In_any _ _ _ _).mono ?_; rintro e w' ⟨rfl, rfl⟩)
    (refine bodyPost_ret (v := .agg #[.int .i64 (b : Int), .int .i64 (t : Int), .int .i64 s]) ?_ rfl ⟨?_, ?_⟩; (focus (go_light; first | (simp [results, Try.results73, go_sem, *]; done) | (simp (disch := first | omega | (simp <;> omega) | (refine isSome_of ?_ ?_; (focus ((repeat (first | ((with_reducible refine (cell_alloc_old _ _ _ _ ?_).trans ?_); (focus (first | omega | (simp <;> omega)))) | ((with_reducible refine (bG (by assumption) ?_).trans ?_); (focus (first | omega | (simp <;> omega)))))); exact rfl)); simp [go_sem]) | fail) [results, Try.results73, go_sem, *]; done))); (focus (go_light; rw [HR.out])); repeat (first | with_reducible exact Below.refl _ _ | with_reducible assumption | ((with_reducible refine blA ?_ ?_); (focus (first | omega | (simp <;> omega)))) | (with_reducible refine blD ?_) | (with_reducible refine blN ?_) | ((with_reducible refine blS ?_ ?_); (focus (first | omega | (simp <;> omega)))) | ((with_reducible refine blT (by assumption) ?_ ?_); (focus (first | omega | (simp <;> omega))))))
def mS (t b : Int) : Nat := if 0 ≤ t ∧ t < b then (2 * t + 1).toNat else (2 * b).toNat
theorem get3 (w : World) (g : Nat) (x y z : Int) (h : ∀ o, w.cell? ⟨g, o, none⟩ = (#[.int .i64 x, .int .i64 y, .int .i64 z] : Array Value)[o]?) : intOf ((w.cell? ⟨g, 0, none⟩).getD undef) = x ∧ intOf ((w.cell? ⟨g, 1, none⟩).getD undef) = y := by
  rw [h 0, h 1]
  exact ⟨rfl, rfl⟩
theorem set3 {w : World} {g : Nat} {x y z : Int} (x' y' z' : Int) (h : ∀ o, w.cell? ⟨g, o, none⟩ = (#[.int .i64 x, .int .i64 y, .int .i64 z] : Array Value)[o]?) : ∀ o, (((w.setCell ⟨g, 0, none⟩ (.int .i64 x')).setCell ⟨g, 1, none⟩ (.int .i64 y')).setCell ⟨g, 2, none⟩ (.int .i64 z')).cell? ⟨g, o, none⟩ = (#[.int .i64 x', .int .i64 y', .int .i64 z'] : Array Value)[o]? := by
  have h0 := h 0
  have h1 := h 1
  have h2 := h 2
  intro o
  match o with
  | 0 => rw [set_other _ _ _ _ _ _ (Or.inr (by omega)), set_other _ _ _ _ _ _ (Or.inr (by omega)), set_same _ _ _ _ _ h0]; rfl
  | 1 => rw [set_other _ _ _ _ _ _ (Or.inr (by omega)), set_same _ _ _ _ (.int .i64 y) (by rw [set_other _ _ _ _ _ _ (Or.inr (by omega)), h1]; rfl)]; rfl
  | 2 => rw [set_same _ _ _ _ (.int .i64 z) (by rw [set_other _ _ _ _ _ _ (Or.inr (by omega)), set_other _ _ _ _ _ _ (Or.inr (by omega)), h2]; rfl)]; rfl
  | n + 3 => rw [set_other _ _ _ _ _ _ (Or.inr (by omega)), set_other _ _ _ _ _ _ (Or.inr (by omega)), set_other _ _ _ _ _ _ (Or.inr (by omega)), h (n + 3)]; simp
set_option maxRecDepth 100000 in
set_option maxHeartbeats 4000000 in
theorem syJacobi_any (a : Int) (n : Nat) (w : World) (ha : Bd 1000000 a) (h1 : n % 2 = 1) (h2 : n ≤ 1000000) : Calls Try.prog 65 #[.int .i64 a, .int .i64 (n : Int)] w fun en w' => en = .returned (.int .i64 (jacW a n)) ∧ Below w.heap.size w w' := by
  go_enter Try.func65, Try.ntmps65
  go_wp2
  go_loopw [] (fun wr => ∃ (t : Int) (b : Nat) (s : Int), Hid (∀ o, wr.cell? ⟨w.heap.size, o, none⟩ = (#[.int .i64 t, .int .i64 (b : Int), .int .i64 s] : Array Value)[o]?) ∧ Hid (∀ o, wr.frozen? ⟨w.heap.size, o, none⟩ = false) ∧ Hid (Below w.heap.size w wr) ∧ w.heap.size < wr.heap.size ∧ Bd 1000000 t ∧ b % 2 = 1 ∧ b ≤ 1000000 ∧ -1 ≤ s ∧ s ≤ 1 ∧ Hid (s * jacW t b = jacW a n)) (fun wr => mS (intOf ((wr.cell? ⟨w.heap.size, 0, none⟩).getD undef)) (intOf ((wr.cell? ⟨w.heap.size, 1, none⟩).getD undef)))
  case atStart =>
    refine ⟨a, n, 1, ?_, ?_, ?_, by simp, ha, h1, h2, by omega, by omega, by show _ = _; omega⟩
    · show ∀ o, _ = _
      intro o; simp [go_sem]
    · show ∀ o, _ = _
      intro o; simp [go_sem]
    · show Below _ _ _
      repeat (first | with_reducible exact Below.refl _ _ | with_reducible assumption | ((with_reducible refine blA ?_ ?_); (focus (first | omega | (simp <;> omega)))) | (with_reducible refine blD ?_) | (with_reducible refine blN ?_) | ((with_reducible refine blS ?_ ?_); (focus (first | omega | (simp <;> omega)))) | ((with_reducible refine blT (by assumption) ?_ ?_); (focus (first | omega | (simp <;> omega)))))
  case round =>
    obtain ⟨t, b, s, hc, hf, hb, hlt, ht, hodd, hb2, hs1, hs2, hj⟩ := hrel
    have hcr := hc.out
    have hfr := hf.out
    have hbr := hb.out
    obtain ⟨t1, t2⟩ := ht
    by_cases hend : t = 0 ∨ t = 1
    · have HE : Hid ((decide (t = 0) || decide (t = 1)) = true) := by show _ = _; rcases hend with h | h <;> simp [h]
      have hcall : Hid (∀ w0, Calls Try.prog 72 #[.agg #[.int .i64 t, .int .i64 (b : Int), .int .i64 s]] w0 fun en w' => en = .returned (.bool true) ∧ Below w0.heap.size w0 w') := by
        show ∀ w0, _
        intro w0
        have := syEnd_any t b s w0
        rwa [HE.out] at this
      go_wp2_with fail
      refine (hcall.out _).mono ?_
      rintro e wa ⟨rfl, hBa⟩
      have hza := hBa.size
      have hca : ∀ o, wa.cell? ⟨w.heap.size, o, none⟩ = (#[.int .i64 t, .int .i64 (b : Int), .int .i64 s] : Array Value)[o]? := fun o => by rw [bG hBa hlt, hcr]
      have hfa : ∀ o, wa.frozen? ⟨w.heap.size, o, none⟩ = false := fun o => by rw [fG hBa hlt, hfr]
      have hBW : Below w.heap.size w wa := hbr.trans (hBa.mono (by omega))
      clear hBa
      rcases hend with rfl | rfl
      · by_cases hb1 : b = 1
        · have HZ : Hid (jacW a n = s) := by
            show _ = _
            rw [← hj.out, hb1]
            show s * jacW 0 1 = s
            rw [show jacW 0 1 = 1 from rfl]
            omega
          have hb1' : ¬ (1 : Int) < (b : Int) := by omega
          have HB := Lib.hid hb1
          clear hb1
          go_wp2
          go_ret
          exact ⟨ret_int (by rw [HZ.out]), hBW⟩
        · have HZ : Hid (jacW a n = 0) := by
            show _ = _
            rw [← hj.out]
            have : jacW 0 b = 0 := by unfold jacW; rw [Int.zero_emod]; show jac 0 b = 0; rw [jac_zero, if_neg hb1]
            rw [this, Int.mul_zero]
          have hb1' : (1 : Int) < (b : Int) := by omega
          clear hb1
          go_wp2
          go_ret
          exact ⟨ret_int (by rw [HZ.out]), hBW⟩
      · have HZ : Hid (jacW a n = s) := by
          show _ = _
          rw [← hj.out, jacW_one (by omega), Int.mul_one]
        go_wp2
        go_ret
        exact ⟨ret_int (by rw [HZ.out]), hBW⟩
    · have HE : Hid ((decide (t = 0) || decide (t = 1)) = false) := by show _ = _; simp; omega
      have hcall : Hid (∀ w0, Calls Try.prog 72 #[.agg #[.int .i64 t, .int .i64 (b : Int), .int .i64 s]] w0 fun en w' => en = .returned (.bool false) ∧ Below w0.heap.size w0 w') := by
        show ∀ w0, _
        intro w0
        have := syEnd_any t b s w0
        rwa [HE.out] at this
      have hsuc : ∃ (t' : Int) (b' : Nat) (s' : Int), Hid (∀ w0, Calls Try.prog 73 #[.agg #[.int .i64 t, .int .i64 (b : Int), .int .i64 s]] w0 fun en w' => en = .returned (.agg #[.int .i64 t', .int .i64 (b' : Int), .int .i64 s']) ∧ Below w0.heap.size w0 w') ∧ Bd 1000000 t' ∧ b' % 2 = 1 ∧ b' ≤ 1000000 ∧ -1 ≤ s' ∧ s' ≤ 1 ∧ Hid (s' * jacW t' b' = jacW a n) ∧ Hid (mS t' b' < mS t b) := by
        by_cases hr : 0 ≤ t ∧ t < b
        · obtain ⟨T, rfl⟩ : ∃ T : Nat, t = T := ⟨t.toNat, by omega⟩
          have hTb : T < b := by omega
          by_cases he : T % 2 = 0
          · obtain ⟨c1, c2⟩ := bd_one ⟨hs1, hs2⟩ (twoI_bd (b : Int))
            refine ⟨((T / 2 : Nat) : Int), b, s * twoI b, fun w0 => sySuccessor_even T b s w0 hTb hb2 he hs1 hs2, ⟨by omega, by omega⟩, hodd, hb2, c1, c2, ?_, ?_⟩
            · show _ = _
              rw [← hj.out, jacW_half (by omega) he hTb, Int.mul_assoc]
            · show _ < _
              unfold mS
              rw [if_pos (by omega), if_pos (by omega)]
              omega
          · obtain ⟨c1, c2⟩ := bd_one ⟨hs1, hs2⟩ (rcp_bd T b)
            refine ⟨(b : Int), T, s * rcp T b, fun w0 => sySuccessor_odd T b s w0 hTb hb2 (by omega) hs1 hs2, ⟨by omega, by omega⟩, by omega, by omega, c1, c2, ?_, ?_⟩
            · show _ = _
              rw [← hj.out, jacW_swap (by omega) hTb, Int.mul_assoc]
            · show _ < _
              unfold mS
              rw [if_neg (by omega), if_pos (by omega)]
              omega
        · have e1 := Int.emod_nonneg t (show (b : Int) ≠ 0 by omega)
          have e2 := Int.emod_lt_of_pos t (show (0 : Int) < b by omega)
          refine ⟨t % b, b, s, fun w0 => sySuccessor_mod t b s w0 ⟨t1, t2⟩ (by omega) (by omega) (by omega), ⟨by omega, by omega⟩, hodd, hb2, hs1, hs2, ?_, ?_⟩
          · show _ = _
            rw [← hj.out, jacW_mod]
          · show _ < _
            unfold mS
            rw [if_pos ⟨e1, e2⟩, if_neg hr]
            omega
      obtain ⟨t', b', s', hsucc, ht', hodd', hb2', hs1', hs2', hj', hm'⟩ := hsuc
      go_wp2_with fail
      refine (hcall.out _).mono ?_
      rintro e wa ⟨rfl, hBa⟩
      have hza := hBa.size
      have hca : ∀ o, wa.cell? ⟨w.heap.size, o, none⟩ = (#[.int .i64 t, .int .i64 (b : Int), .int .i64 s] : Array Value)[o]? := fun o => by rw [bG hBa hlt, hcr]
      have hfa : ∀ o, wa.frozen? ⟨w.heap.size, o, none⟩ = false := fun o => by rw [fG hBa hlt, hfr]
      have hBA : Below w.heap.size w wa := hbr.trans (hBa.mono (by omega))
      clear hBa
      have hlta : w.heap.size < wa.heap.size := by omega
      go_wp2_with fail
      refine (hsucc.out _).mono ?_
      rintro e wb ⟨rfl, hBb⟩
      have hzb := hBb.size
      have hcb : ∀ o, wb.cell? ⟨w.heap.size, o, none⟩ = (#[.int .i64 t, .int .i64 (b : Int), .int .i64 s] : Array Value)[o]? := fun o => by rw [bG hBb hlta, hca]
      have hfb : ∀ o, wb.frozen? ⟨w.heap.size, o, none⟩ = false := fun o => by rw [fG hBb hlta, hfa]
      have hBW : Below w.heap.size w wb := hBA.trans (hBb.mono (by omega))
      have hltb : w.heap.size < wb.heap.size := by omega
      have HM : Hid (mS (intOf ((wr.cell? ⟨w.heap.size, 0, none⟩).getD undef)) (intOf ((wr.cell? ⟨w.heap.size, 1, none⟩).getD undef)) = mS t b) := by
        show _ = _
        rw [(get3 _ _ _ _ _ hcr).1, (get3 _ _ _ _ _ hcr).2]
      clear hBb hBA hca hfa hcr hfr hbr
      go_wp2
      go_roundw
      case rel =>
        go_light
        refine ⟨t', b', s', ?_, ?_, ?_, by simp; omega, ht', hodd', hb2', hs1', hs2', hj'.out⟩
        · show ∀ o, _ = _
          exact set3 _ _ _ hcb
        · show ∀ o, _ = _
          intro o
          simp [go_sem, hfb]
        · show Below _ _ _
          repeat (first | with_reducible exact Below.refl _ _ | with_reducible assumption | ((with_reducible refine blA ?_ ?_); (focus (first | omega | (simp <;> omega)))) | (with_reducible refine blD ?_) | (with_reducible refine blN ?_) | ((with_reducible refine blS ?_ ?_); (focus (first | omega | (simp <;> omega)))) | ((with_reducible refine blT (by assumption) ?_ ?_); (focus (first | omega | (simp <;> omega)))))
      case measure =>
        go_light
        rw [HM.out, (get3 _ _ _ _ _ (set3 _ _ _ hcb)).1, (get3 _ _ _ _ _ (set3 _ _ _ hcb)).2]
        exact hm'.out
theorem syKronecker_any (a : Int) (n : Nat) (w : World) (ha : Bd 1000000 a) (h1 : 1 ≤ n) (h2 : n ≤ 1000000) : Calls Try.prog 38 #[.int .i64 a, .int .i64 (n : Int)] w fun en w' => en = .returned (.int .i64 (kro a n)) ∧ Below w.heap.size w w' := by
  have hA := ha
  obtain ⟨a1, a2⟩ := ha
  have hn0 : ((n : Int) == 0) = false := by simp; omega
  have hn1 : decide ((n : Int) < 0) = false := by simp
  go_enter Try.func38, Try.ntmps38
  go_wp2
  go_loopw [1, 5] (fun x z wr => ∃ (q : Nat) (s : Int), x = .int .i64 (q : Int) ∧ z = .int .i64 s ∧ 0 < q ∧ q ≤ n ∧ -1 ≤ s ∧ s ≤ 1 ∧ Hid (s * kro a q = kro a n) ∧ Hid (Below w.heap.size w wr)) (fun x _ _ => (intOf x).toNat)
  case atStart => exact ⟨n, 1, rfl, rfl, by omega, Nat.le_refl _, by omega, by omega, by show _ = _; omega, Below.refl _ _⟩
  case round =>
    obtain ⟨q, s, rfl, rfl, hq0, hqn, hs1, hs2, hj, hb⟩ := hrel
    have hbz := hb.out.size
    by_cases hq : q % 2 = 0
    · have hq' : (q : Int) % 2 = 0 := by omega
      have HN : Hid (s * twoI a * kro a (q / 2) = kro a n) := by show _ = _; rw [← hj.out, kro_even (by omega) hq, Int.mul_assoc]
      obtain ⟨b1, b2⟩ := bd_one ⟨hs1, hs2⟩ (twoI_bd a)
      go_wp2_with fail
      refine (syTwo_any a _ ⟨by omega, by omega⟩).mono ?_
      rintro e wa ⟨rfl, rfl⟩
      go_wp2
      go_roundw
      case rel =>
        go_light
        exact ⟨q / 2, s * twoI a, by go_num, rfl, by omega, by omega, b1, b2, HN.out, hb.out⟩
      case measure => simp [intOf]; omega
    · have hq' : (q : Int) % 2 = 1 := by omega
      have HN : Hid (s * jacW a q = kro a n) := by show _ = _; rw [← hj.out, kro_odd (by omega)]
      obtain ⟨b1, b2⟩ := bd_one ⟨hs1, hs2⟩ (jacW_bd a q)
      go_wp2_with fail
      refine (syJacobi_any a q _ hA (by omega) (by omega)).mono ?_
      rintro e wa ⟨rfl, hBa⟩
      have hB2 := Lib.hid (hb.out.trans (hBa.mono (by omega)))
      clear hBa
      go_wp2
      go_ret
      exact ⟨ret_int (by rw [← HN.out]), hB2.out⟩
end Go.Proofs.Ytdahpjbpcdfhkaa
