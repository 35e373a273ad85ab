/-
  The inverse modulo a number, common residues: the reference's way walked.
-/
import Derived.Test.YtdeboabifcpdbaaMeetM
import Derived.Test.YtdeboabifcpdbaaNum
import Derived.Test.YtdeboabifcpdbaaEnd
namespace Go.Proofs.Ytdeboabifcpdbaa
open Go.RowKit
attribute [local simp, local go_sem] past_cell past_frozen past_tape
structure InvI (m a R N X Y : Int) : Prop where
  R1 : 1 ≤ R
  N0 : 0 ≤ N
  Rm : R ≤ m
  NR : N < R
  hg : Int.gcd R N = 1
  d1 : m ∣ R - X * a
  d2 : m ∣ N - Y * a
  bal : (X.natAbs : Int) * N + (Y.natAbs : Int) * R = m
  opp : X * Y ≤ 0
  bX : Bd m X
theorem opp_abs {X Y q : Int} (h : X * Y ≤ 0) (hq : 0 ≤ q) : (((X - q * Y).natAbs : Nat) : Int) = (X.natAbs : Int) + q * (Y.natAbs : Int) ∧ Y * (X - q * Y) ≤ 0 := by
  have hyy : 0 ≤ q * (Y * Y) := Int.mul_nonneg hq (by rcases Int.le_total 0 Y with h | h; exact Int.mul_nonneg h h; exact Int.mul_nonneg_of_nonpos_of_nonpos h h)
  refine ⟨?_, by rw [show Y * (X - q * Y) = X * Y - q * (Y * Y) by grind]; omega⟩
  rcases Int.lt_trichotomy Y 0 with hy | hy | hy
  · have hx : 0 ≤ X := by
      rcases Int.lt_or_le X 0 with h1 | h1
      · have := Int.mul_pos_of_neg_of_neg h1 hy; omega
      · exact h1
    have e1 : (Y.natAbs : Int) = -Y := by omega
    have e2 : (X.natAbs : Int) = X := by omega
    have e3 : 0 ≤ q * -Y := Int.mul_nonneg hq (by omega)
    have e4 : q * -Y = -(q * Y) := Int.mul_neg _ _
    rw [e1, e2]
    omega
  · subst hy
    simp
  · have hx : X ≤ 0 := by
      rcases Int.lt_or_le 0 X with h1 | h1
      · have := Int.mul_pos h1 hy; omega
      · exact h1
    have e1 : (Y.natAbs : Int) = Y := by omega
    have e2 : (X.natAbs : Int) = -X := by omega
    have e3 : 0 ≤ q * Y := Int.mul_nonneg hq (by omega)
    rw [e1, e2]
    omega
theorem inv_step {m a R N X Y : Int} (h : InvI m a R N X Y) (hN : N ≠ 0) : InvI m a N (R - R / N * N) Y (X - R / N * Y) ∧ 0 ≤ R / N ∧ R / N ≤ m ∧ 0 ≤ R / N * N ∧ R / N * N ≤ R ∧ Bd m (R / N * Y) ∧ Bd m (X - R / N * Y) ∧ Bd m Y := by
  obtain ⟨R1, N0, Rm, NR, hg, d1, d2, bal, opp, bX⟩ := h
  have hN1 : 0 < N := by omega
  have e1 := Int.emod_add_mul_ediv R N
  have e2 := Int.emod_nonneg R hN
  have e3 := Int.emod_lt_of_pos R hN1
  have hr : R - R / N * N = R % N := by rw [Int.mul_comm]; omega
  have hq0 : 0 ≤ R / N := Int.ediv_nonneg (by omega) (by omega)
  have hqR : R / N ≤ R := Int.ediv_le_self _ (by omega)
  obtain ⟨o1, o2⟩ := opp_abs opp hq0
  have hc : R / N * N = N * (R / N) := Int.mul_comm _ _
  have hp0 : 0 ≤ (Y.natAbs : Int) * (R % N) := Int.mul_nonneg (by omega) e2
  have hbal : (Y.natAbs : Int) * (R - R / N * N) + ((X - R / N * Y).natAbs : Int) * N = m := by
    rw [o1, ← bal]; grind
  have hY' : ((X - R / N * Y).natAbs : Int) ≤ m := by
    rw [hr] at hbal
    have : ((X - R / N * Y).natAbs : Int) * 1 ≤ ((X - R / N * Y).natAbs : Int) * N := Int.mul_le_mul_of_nonneg_left (by omega) (by omega)
    omega
  have hY : (Y.natAbs : Int) ≤ m := by
    have h1 : (Y.natAbs : Int) * 1 ≤ (Y.natAbs : Int) * R := Int.mul_le_mul_of_nonneg_left (by omega) (by omega)
    have h2 : 0 ≤ (X.natAbs : Int) * N := Int.mul_nonneg (by omega) (by omega)
    omega
  have hqY : (((R / N * Y).natAbs : Nat) : Int) ≤ m := by
    rw [Int.natAbs_mul, Int.natCast_mul]
    have : ((R / N).natAbs : Int) = R / N := by omega
    rw [this]
    omega
  refine ⟨⟨by omega, by omega, by omega, by omega, ?_, d2, ?_, hbal, o2, bd_iff.2 hY⟩, hq0, by omega, by omega, by omega, bd_iff.2 hqY, bd_iff.2 hY', bd_iff.2 hY⟩
  · rw [hr, Int.gcd_comm, ← hg]
    have h1 : R % N = R.tmod N := by rw [Int.tmod_eq_emod_of_nonneg (by omega)]
    rw [h1, Int.gcd_comm]
    have := gcd_step R N
    exact this
  · obtain ⟨p, hp⟩ := d1
    obtain ⟨s, hs⟩ := d2
    refine ⟨p - R / N * s, ?_⟩
    have h1 : R - R / N * N - (X - R / N * Y) * a = (R - X * a) - R / N * (N - Y * a) := by grind
    rw [h1, hp, hs]
    grind
theorem inv_start {m a : Int} (ha : 0 ≤ a) (hm : 1 ≤ m) (hc : Int.gcd a m = 1) : InvI m a m (a % m) 0 1 := by
  have e2 := Int.emod_nonneg a (show m ≠ 0 by omega)
  have e3 := Int.emod_lt_of_pos a (show 0 < m by omega)
  refine ⟨hm, e2, Int.le_refl _, e3, ?_, ⟨1, by omega⟩, ⟨-(a / m), by have := Int.emod_add_mul_ediv a m; rw [Int.mul_neg]; omega⟩, by simp, by omega, ⟨by omega, by omega⟩⟩
  rw [← Int.tmod_eq_emod_of_nonneg ha, gcd_step a m, hc]
theorem inv_end {m a R X Y : Int} (h : InvI m a R 0 X Y) : R = 1 ∧ invM a m = X % m := by
  obtain ⟨R1, _, Rm, _, hg, d1, _, _, _, _⟩ := h
  rw [Int.gcd_zero_right] at hg
  obtain rfl : R = 1 := by omega
  refine ⟨rfl, invM_eq (Int.emod_nonneg _ (by omega)) (Int.emod_lt_of_pos _ (by omega)) ?_⟩
  obtain ⟨p, hp⟩ := d1
  refine ⟨-p - a * (X / m), ?_⟩
  have := Int.emod_add_mul_ediv X m
  have e : X % m = X - m * (X / m) := by omega
  rw [e]
  grind
set_option maxRecDepth 100000 in
set_option maxHeartbeats 4000000 in
theorem nuInverse_any (a m : Int) (w : World) (ha : 0 ≤ a) (ha2 : a ≤ 1000000) (hm : 1 ≤ m) (hm2 : m ≤ 1000000) (hc : Int.gcd a m = 1) : Calls Try.prog 96 #[.int .i64 a, .int .i64 m] w fun en w' => en = .returned (.int .i64 (invM a m)) ∧ w = w' := by
  have HS := Lib.hid (inv_start ha hm hc)
  clear hc
  go_enter Try.func96, Try.ntmps96
  go_wp2_with (go_at_call 62; refine (nuMod_any _ _ _ ⟨by omega, by omega⟩ (by omega) (by omega)).mono ?_; rintro e w' ⟨rfl, rfl⟩)
  go_loop [5, 6, 7, 8] (fun r n x y => ∃ R N X Y : Int, r = .int .i64 R ∧ n = .int .i64 N ∧ x = .int .i64 X ∧ y = .int .i64 Y ∧ Hid (InvI m a R N X Y)) (fun _ n _ _ => (intOf n).toNat)
  case atStart => exact ⟨m, a % m, 0, 1, rfl, rfl, rfl, rfl, HS.out⟩
  case round =>
    obtain ⟨R, N, X, Y, rfl, rfl, rfl, rfl, hinv⟩ := hrel
    have i1 := hinv.out.R1
    have i2 := hinv.out.N0
    have i3 := hinv.out.Rm
    have i4 := hinv.out.NR
    obtain ⟨x1, x2⟩ := hinv.out.bX
    by_cases hN : N = 0
    · subst hN
      have he := inv_end hinv.out
      obtain ⟨rfl, he⟩ := he
      have HE := Lib.hid he
      clear he
      go_wp2_with (go_at_call 62; refine (nuMod_any _ _ _ ⟨by omega, by omega⟩ (by omega) (by omega)).mono ?_; rintro e w' ⟨rfl, rfl⟩)
      go_ret
      exact ⟨ret_int HE.out.symm, rfl⟩
    · obtain ⟨hn, q1, q2, q3, q4, ⟨q5, q6⟩, ⟨q7, q8⟩, ⟨q9, q10⟩⟩ := inv_step hinv.out hN
      have HN := Lib.hid hn
      have hlt := hn.NR
      have hge := hn.N0
      clear hn
      go_wp2
      go_round
      case rel =>
        go_light
        exact ⟨N, R - R / N * N, Y, X - R / N * Y, rfl, rfl, rfl, rfl, HN.out⟩
      case measure => simp [intOf]; omega
set_option maxRecDepth 100000 in
set_option maxHeartbeats 4000000 in
/-- What the reference finds. -/
theorem nuCommon_no (a m b n : Int) (w : World) (ha : Bd 1000 a) (hb : Bd 1000 b) (hm : 1 ≤ m) (hm2 : m ≤ 1000) (hn : 1 ≤ n) (hn2 : n ≤ 1000) (h : ¬ (Int.gcd m n : Int) ∣ b - a) :
    Calls Try.prog 78 #[.int .i64 a, .int .i64 m, .int .i64 b, .int .i64 n] w fun en w' => en = .returned (.tuple #[.int .i64 0, .int .i64 0, .bool false]) ∧ Below w.heap.size w w' := by
  have hg1 : (1 : Int) ≤ (Int.gcd m n : Int) := by
    obtain ⟨_, _, _, _, _, hg1⟩ := gcd_parts (A := m) (A' := n) hm
    exact hg1
  have hg2 : (Int.gcd m n : Int) ≤ 1000 := by
    have := Int.le_of_dvd (show 0 < m by omega) (Int.gcd_dvd_left m n)
    omega
  have hcall : Hid (∀ w0, Calls Try.prog 60 #[.int .i64 m, .int .i64 n] w0 fun en w' => en = .returned (.int .i64 (Int.gcd m n : Int)) ∧ ∃ q, w' = w0.drewN q) := fun w0 => nuGcd_any m n w0 ⟨by omega, by omega⟩ ⟨by omega, by omega⟩
  have ht : ((b - a).tmod (Int.gcd m n : Int) == 0) = false := by
    have : ¬ (b - a).tmod (Int.gcd m n : Int) = 0 := fun e => h (Int.dvd_of_tmod_eq_zero e)
    simp [this]
  generalize (Int.gcd m n : Int) = g at *
  obtain ⟨a1, a2⟩ := ha
  obtain ⟨b1, b2⟩ := hb
  clear h
  go_enter Try.func78, Try.ntmps78
  go_wp2_with (go_at_call 60; refine (hcall.out _).mono ?_; rintro e w' ⟨rfl, nq, rfl⟩)
  go_ret3
  exact ⟨rfl, below_drewN (Below.refl _ _) _⟩
set_option maxRecDepth 100000 in
set_option maxHeartbeats 4000000 in
theorem nuCommon_yes (a m b n : Int) (w : World) (ha : Bd 1000 a) (hb : Bd 1000 b) (hm : 1 ≤ m) (hm2 : m ≤ 1000) (hn : 1 ≤ n) (hn2 : n ≤ 1000) (h : (Int.gcd m n : Int) ∣ b - a) :
    Calls Try.prog 78 #[.int .i64 a, .int .i64 m, .int .i64 b, .int .i64 n] w fun en w' => en = .returned (.tuple #[.int .i64 (crtX m n (m / (Int.gcd m n : Int) * n) a b), .int .i64 (m / (Int.gcd m n : Int) * n), .bool true]) ∧ Below w.heap.size w w' := by
  obtain ⟨p, q, hp, hq, hpq, hg1⟩ := gcd_parts (A := m) (A' := n) hm
  have hg2 : (Int.gcd m n : Int) ≤ 1000 := by
    have := Int.le_of_dvd (show 0 < m by omega) (Int.gcd_dvd_left m n)
    omega
  have hcall : Hid (∀ w0, Calls Try.prog 60 #[.int .i64 m, .int .i64 n] w0 fun en w' => en = .returned (.int .i64 (Int.gcd m n : Int)) ∧ ∃ q, w' = w0.drewN q) := fun w0 => nuGcd_any m n w0 ⟨by omega, by omega⟩ ⟨by omega, by omega⟩
  have ht : ((b - a).tmod (Int.gcd m n : Int) == 0) = true := by
    have := Int.tmod_eq_zero_of_dvd h
    simp [this]
  have hp1 : 1 ≤ p := by
    rcases Int.lt_or_le 0 p with h | h
    · omega
    · have := Int.mul_nonpos_of_nonneg_of_nonpos (show (0 : Int) ≤ (Int.gcd m n : Int) by omega) h; omega
  have hq1 : 1 ≤ q := by
    rcases Int.lt_or_le 0 q with h | h
    · omega
    · have := Int.mul_nonpos_of_nonneg_of_nonpos (show (0 : Int) ≤ (Int.gcd m n : Int) by omega) h; omega
  have hF : Hid (∀ v, n / (Int.gcd m n : Int) ∣ m / (Int.gcd m n : Int) * v - 1 → crtX m n (m / (Int.gcd m n : Int) * n) a b = (a + m * (((b - a) / (Int.gcd m n : Int) * v) % (n / (Int.gcd m n : Int)))) % (m / (Int.gcd m n : Int) * n)) := fun v hv => (crt_formula (v := v) hm hn h hv).1
  obtain ⟨e, he⟩ := h
  generalize (Int.gcd m n : Int) = g at *
  have hmg : m / g = p := by rw [hp, Int.mul_ediv_cancel_left _ (by omega)]
  have hng : n / g = q := by rw [hq, Int.mul_ediv_cancel_left _ (by omega)]
  have hba : (b - a).tdiv g = e := by rw [he, Int.mul_tdiv_cancel_left _ (by omega)]
  have hbe : (b - a) / g = e := by rw [he, Int.mul_ediv_cancel_left _ (by omega)]
  rw [hmg, hng, hbe] at hF
  rw [hmg]
  obtain ⟨v, hv0, hv1, hv⟩ := inv_exists hq1 hpq
  have hinv : invM p q = v := invM_eq hv0 hv1 hv
  have HF := Lib.hid (hF.out v hv)
  have hpm : p ≤ m := by have := Int.mul_le_mul_of_nonneg_right hg1 (show 0 ≤ p by omega); omega
  have hqn : q ≤ n := by have := Int.mul_le_mul_of_nonneg_right hg1 (show 0 ≤ q by omega); omega
  have hI : Hid (∀ w0, Calls Try.prog 96 #[.int .i64 p, .int .i64 q] w0 fun en w' => en = .returned (.int .i64 v) ∧ w0 = w') := by
    show ∀ w0, _
    intro w0
    have := nuInverse_any p q w0 (by omega) (by omega) hq1 (by omega) hpq
    rwa [hinv] at this
  obtain ⟨a1, a2⟩ := ha
  obtain ⟨b1, b2⟩ := hb
  have heb : Bd 2000 e := by
    have := tdiv_bd g (show Bd 2000 (b - a) from ⟨by omega, by omega⟩)
    rwa [hba] at this
  obtain ⟨ev1, ev2⟩ := mul_bd (k := 2000) (m := 1000) (n := 2000000) heb (show Bd 1000 v from ⟨by omega, by omega⟩) (by omega)
  obtain ⟨e1, e2⟩ := heb
  have t0 := Int.emod_nonneg (e * v) (show q ≠ 0 by omega)
  have t1 := Int.emod_lt_of_pos (e * v) (show 0 < q by omega)
  generalize hT : e * v % q = T at *
  have HT := Lib.hid hT
  obtain ⟨mt1, mt2⟩ := mul_bd (k := 1000) (m := 1000) (n := 1000000) (a := m) (b := T) ⟨by omega, by omega⟩ ⟨by omega, by omega⟩ (by omega)
  obtain ⟨pn1, pn2⟩ := mul_bd (k := 1000) (m := 1000) (n := 1000000) (a := p) (b := n) ⟨by omega, by omega⟩ ⟨by omega, by omega⟩ (by omega)
  have pn0 : 1 ≤ p * n := Int.mul_le_mul hp1 hn (by omega) (by omega)
  have hM : Hid (∀ w0, Calls Try.prog 62 #[.int .i64 (e * v), .int .i64 q] w0 fun en w' => en = .returned (.int .i64 T) ∧ w0 = w') := by
    show ∀ w0, _
    intro w0
    have := nuMod_any (e * v) q w0 ⟨by omega, by omega⟩ (by omega) (by omega)
    rwa [HT.out] at this
  have HP := Lib.hid hp
  have HQ := Lib.hid hq
  have HHE := Lib.hid he
  clear hp hq he hT hinv hv hF hbe hpq
  go_enter Try.func78, Try.ntmps78
  go_wp2_with (go_at_call 60; refine (hcall.out _).mono ?_; rintro e w' ⟨rfl, nq, rfl⟩)
  refine wp_region_past (by kernel_rfl) (by kernel_rfl) ?_
  repeat (first | go_big_quiet_skip | (go_big_quiet_want; go_big_quiet_op; first | go_big_quiet_on | (apply Exists.intro; refine ⟨fun _ => ?_, ?_⟩; (focus (first | (go_at_call 96; exact past_same (hI.out _)) | (go_at_call 62; exact past_same (hM.out _)))); go_big_quiet_on)))
  refine wpQuiet_nil ?_
  intro w1 hw'
  have hB1 := past_below hw'
  clear hw'
  obtain ⟨hC1, hF1⟩ := bcell hB1
  have hS1 := hB1.size
  (try simp at hS1)
  (try have hS1_w0 : w.heap.size < w1.heap.size := by omega)
  (try have hS1_w1 : w.heap.size + 1 < w1.heap.size := by omega)
  (try have hS1_w2 : w.heap.size + 1 + 1 < w1.heap.size := by omega)
  (try have hS1_w3 : w.heap.size + 1 + 1 + 1 < w1.heap.size := by omega)
  (try have hS1_w4 : w.heap.size + 1 + 1 + 1 + 1 < w1.heap.size := by omega)
  go_wp2_with (go_at_call 62; refine (nuMod_any _ _ _ ⟨by omega, by omega⟩ (by omega) (by omega)).mono ?_; rintro e w' ⟨rfl, rfl⟩)
  go_ret3
  refine ⟨by rw [HF.out]; try rfl, ?_⟩
  repeat (first | with_reducible exact Below.refl _ _ | with_reducible assumption | ((with_reducible refine blA ?_ ?_); (focus (first | omega | (simp <;> omega)))) | (with_reducible refine blD ?_) | (with_reducible refine blN ?_) | ((with_reducible refine blS ?_ ?_); (focus (first | omega | (simp <;> omega)))) | ((with_reducible refine blT (by assumption) ?_ ?_); (focus (first | omega | (simp <;> omega)))))
end Go.Proofs.Ytdeboabifcpdbaa
