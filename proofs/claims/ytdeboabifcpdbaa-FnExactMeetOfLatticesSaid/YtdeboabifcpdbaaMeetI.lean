/-
  MeetOfLattices: both ways, and the law.
-/
import Derived.Test.YtdeboabifcpdbaaMeetW
namespace Go.Proofs.Ytdeboabifcpdbaa
open Go.RowKit
attribute [local simp, local go_sem] past_cell past_frozen past_tape
set_option maxRecDepth 100000 in
set_option maxHeartbeats 1000000 in
theorem implMeet_any (a b d a' b' d' : Int) (w : World) (ha : I64 a) (ha' : I64 a') :
    Calls Try.prog 45 #[.agg #[.int .i64 a, .int .i64 b, .int .i64 d], .agg #[.int .i64 a', .int .i64 b', .int .i64 d']] w fun en w' => en = .returned (.tuple #[.agg #[.int .i64 (iz (mtOk a b d a' b' d') (mtL a a')), .int .i64 (iz (mtOk a b d a' b' d') (mtX a b d a' b' d')), .int .i64 (iz (mtOk a b d a' b' d') (mtY a b d a' b' d'))], .bool (mtOk a b d a' b' d')]) ∧ Below w.heap.size w w' := by
  by_cases c1 : latB a b d = true
  · by_cases c2 : latB a' b' d' = true
    · obtain ⟨g, gd, t, e, e', K, L, F⟩ := mt_facts c1 c2
      obtain ⟨a1, a2, d1, d2, b1, b2⟩ := latB_true c1
      obtain ⟨a1', a2', d1', d2', b1', b2'⟩ := latB_true c2
      obtain ⟨ga, gdd, g1, g2, gd1, gd2, t1, t2, td, ed, ed', e1, e2, e1', e2', K1, K2, Kd, al, ag1, ag2, L1, L2, tE, eE, eE', KE, LE⟩ := F
      have hG : Hid (∀ w0, Calls Try.prog 61 #[.int .i64 d, .int .i64 d'] w0 fun en w' => en = .returned (.int .i64 gd) ∧ ∃ q, w' = w0.drewN q) := by
        show ∀ w0, _
        intro w0
        have := gcd_any d d' w0 ⟨by omega, by omega⟩ ⟨by omega, by omega⟩
        rwa [← gdd] at this
      have hG2 : Hid (∀ w0, Calls Try.prog 61 #[.int .i64 a, .int .i64 a'] w0 fun en w' => en = .returned (.int .i64 g) ∧ Below w0.heap.size w0 w') := by
        show ∀ w0, _
        intro w0
        have := gcd_any a a' w0 ⟨by omega, by omega⟩ ⟨by omega, by omega⟩
        rw [← ga] at this
        exact this.mono fun _ _ ⟨h1, q, h2⟩ => ⟨h1, by rw [h2]; exact below_drewN (Below.refl _ _) _⟩
      have hs : Hid (mtOk a b d a' b' d' = (decide (L ≤ 1000) && decide (K * t ≤ 1000))) := by show _ = _; rw [mtOk, c1, c2, LE, mtY, KE, tE]; rfl
      have hY : Hid (mtY a b d a' b' d' = K * t) := by show _ = _; rw [mtY, KE, tE]
      have hL : Hid (mtL a a' = L) := LE
      have hX : Hid (mtX a b d a' b' d' = crtX a a' L (K * e * b) (K * e' * b')) := by show _ = _; rw [mtX, KE, eE, eE', LE]
      have hKd := Lib.hid Kd
      have hmem : Hid (0 ≤ crtX a a' L (K * e * b) (K * e' * b') ∧ crtX a a' L (K * e * b) (K * e' * b') < L ∧ a ∣ crtX a a' L (K * e * b) (K * e' * b') - K * e * b ∧ a' ∣ crtX a a' L (K * e * b) (K * e' * b') - K * e' * b') := by
        have h3 : (Int.gcd a a' : Int) ∣ K * e' * b' - K * e * b := by
          rw [← ga]
          have := (Kd K).2 (Int.dvd_refl _)
          have := Int.dvd_neg.2 this
          rwa [show -(K * e * b - K * e' * b') = K * e' * b' - K * e * b by omega] at this
        have := crt_mem (c := K * e * b) (c' := K * e' * b') a1 a1' h3
        rw [← ga, al] at this
        exact this
      have huni : Hid (∀ x, 0 ≤ x → x < L → a ∣ x - K * e * b → a' ∣ x - K * e' * b' → crtX a a' L (K * e * b) (K * e' * b') = x) := fun x h0 h1 h2 h3 => crtX_eq a1 (by rw [← ga, al]) h0 h1 h2 h3
      have HED := Lib.hid ed
      have HED' := Lib.hid ed'
      clear ed ed' tE eE eE' KE LE ga gdd Kd
      go_enter Try.func45, Try.ntmps45
      go_wp2_with fail
      refine (isLattice_any _ _ _ _).mono ?_
      rintro e1 w1 ⟨rfl, hB1⟩
      obtain ⟨hC1, hF1⟩ := bcell hB1
      have hS1 := hB1.size
      (try simp at hS1)
      (try have hS1_w0 : w.heap.size < w1.heap.size := by omega)
      (try have hS1_w1 : w.heap.size + 1 < w1.heap.size := by omega)
      (try have hS1_w2 : w.heap.size + 1 + 1 < w1.heap.size := by omega)
      (try have hS1_w3 : w.heap.size + 1 + 1 + 1 < w1.heap.size := by omega)
      (try have hS1_w4 : w.heap.size + 1 + 1 + 1 + 1 < w1.heap.size := by omega)
      (try have hL1_w0 : w.heap.size ≤ w1.heap.size := by omega)
      (try have hL1_w1 : w.heap.size + 1 ≤ w1.heap.size := by omega)
      (try have hL1_w2 : w.heap.size + 1 + 1 ≤ w1.heap.size := by omega)
      (try have hL1_w3 : w.heap.size + 1 + 1 + 1 ≤ w1.heap.size := by omega)
      (try have hL1_w : w.heap.size ≤ w1.heap.size + 1 := by omega)
      (try have hM1_1 : w.heap.size < w1.heap.size + 1 := by omega)
      (try have hM1_2 : w.heap.size < w1.heap.size + 1 + 1 := by omega)
      (try have hM1_3 : w.heap.size < w1.heap.size + 1 + 1 + 1 := by omega)
      go_wp2_with fail
      refine (isLattice_any _ _ _ _).mono ?_
      rintro e2 w2 ⟨rfl, hB2⟩
      obtain ⟨hC2, hF2⟩ := bcell hB2
      have hS2 := hB2.size
      (try simp at hS2)
      (try have hS2_w0 : w.heap.size < w2.heap.size := by omega)
      (try have hS2_w1 : w.heap.size + 1 < w2.heap.size := by omega)
      (try have hS2_w2 : w.heap.size + 1 + 1 < w2.heap.size := by omega)
      (try have hS2_w3 : w.heap.size + 1 + 1 + 1 < w2.heap.size := by omega)
      (try have hS2_w4 : w.heap.size + 1 + 1 + 1 + 1 < w2.heap.size := by omega)
      (try have hL2_w0 : w.heap.size ≤ w2.heap.size := by omega)
      (try have hL2_w1 : w.heap.size + 1 ≤ w2.heap.size := by omega)
      (try have hL2_w2 : w.heap.size + 1 + 1 ≤ w2.heap.size := by omega)
      (try have hL2_w3 : w.heap.size + 1 + 1 + 1 ≤ w2.heap.size := by omega)
      (try have hL2_w : w.heap.size ≤ w2.heap.size + 1 := by omega)
      (try have hM2_1 : w.heap.size < w2.heap.size + 1 := by omega)
      (try have hM2_2 : w.heap.size < w2.heap.size + 1 + 1 := by omega)
      (try have hM2_3 : w.heap.size < w2.heap.size + 1 + 1 + 1 := by omega)
      (try have hN2_1_00 : w1.heap.size < w2.heap.size := by omega)
      (try have hN2_1_01 : w1.heap.size < w2.heap.size + 1 := by omega)
      (try have hN2_1_02 : w1.heap.size < w2.heap.size + 1 + 1 := by omega)
      (try have hN2_1_10 : w1.heap.size + 1 < w2.heap.size := by omega)
      (try have hN2_1_11 : w1.heap.size + 1 < w2.heap.size + 1 := by omega)
      (try have hN2_1_12 : w1.heap.size + 1 < w2.heap.size + 1 + 1 := by omega)
      (try have hN2_1_20 : w1.heap.size + 1 + 1 < w2.heap.size := by omega)
      (try have hN2_1_21 : w1.heap.size + 1 + 1 < w2.heap.size + 1 := by omega)
      (try have hN2_1_22 : w1.heap.size + 1 + 1 < w2.heap.size + 1 + 1 := by omega)
      (try have hL2_1 : w1.heap.size ≤ w2.heap.size := by omega)
      (try have hS2_1 : w1.heap.size < w2.heap.size := by omega)
      (try have hS2_1' : w1.heap.size + 1 < w2.heap.size := by omega)
      go_wp2_with fail
      refine (hG2.out _).mono ?_
      rintro ex wg ⟨rfl, hBg⟩
      have hzg := hBg.size
      have hx : ∀ o, wg.cell? ⟨w.heap.size, o, none⟩ = (#[.int .i64 a, .int .i64 b, .int .i64 d] : Array Value)[o]? := by (intro o; (repeat (first | ((with_reducible refine (cell_alloc_old _ _ _ _ ?_).trans ?_); (focus (first | omega | (simp <;> omega)))) | ((with_reducible refine (bC (by assumption) ?_).trans ?_); (focus (first | omega | (simp <;> omega)))) | ((with_reducible refine (bG (by assumption) ?_).trans ?_); (focus (first | omega | (simp <;> omega)))))); simp [go_sem])
      have hx' : ∀ o, wg.cell? ⟨w.heap.size + 1, o, none⟩ = (#[.int .i64 a', .int .i64 b', .int .i64 d'] : Array Value)[o]? := by (intro o; (repeat (first | ((with_reducible refine (cell_alloc_old _ _ _ _ ?_).trans ?_); (focus (first | omega | (simp <;> omega)))) | ((with_reducible refine (bC (by assumption) ?_).trans ?_); (focus (first | omega | (simp <;> omega)))) | ((with_reducible refine (bG (by assumption) ?_).trans ?_); (focus (first | omega | (simp <;> omega)))))); simp [go_sem])
      have hr : ∀ o, wg.cell? ⟨w.heap.size + 1 + 1, o, none⟩ = (#[.int .i64 0, .int .i64 0, .int .i64 0] : Array Value)[o]? := by (intro o; (repeat (first | ((with_reducible refine (cell_alloc_old _ _ _ _ ?_).trans ?_); (focus (first | omega | (simp <;> omega)))) | ((with_reducible refine (bC (by assumption) ?_).trans ?_); (focus (first | omega | (simp <;> omega)))) | ((with_reducible refine (bG (by assumption) ?_).trans ?_); (focus (first | omega | (simp <;> omega)))))); simp [go_sem])
      have hrf : ∀ o, wg.frozen? ⟨w.heap.size + 1 + 1, o, none⟩ = false := by (intro o; (repeat (first | ((with_reducible refine (frozen_alloc_old _ _ _ _ ?_).trans ?_); (focus (first | omega | (simp <;> omega)))) | ((with_reducible refine (fG (by assumption) ?_).trans ?_); (focus (first | omega | (simp <;> omega)))))); simp [go_sem])
      have hBW : Below w.heap.size w wg := by repeat (first | with_reducible exact Below.refl _ _ | with_reducible assumption | ((with_reducible refine blA ?_ ?_); (focus (first | omega | (simp <;> omega)))) | (with_reducible refine blD ?_) | (with_reducible refine blN ?_) | ((with_reducible refine blS ?_ ?_); (focus (first | omega | (simp <;> omega)))) | ((with_reducible refine blT (by assumption) ?_ ?_); (focus (first | omega | (simp <;> omega)))))
      have hBWg := Lib.hid hBW
      have hzz : w.heap.size + 1 + 1 < wg.heap.size := by omega
      have l0 : w.heap.size < wg.heap.size := by omega
      have l1 : w.heap.size + 1 < wg.heap.size := by omega
      have HY := Lib.hid hx
      have HY' := Lib.hid hx'
      have HYR := Lib.hid hr
      have HYF := Lib.hid hrf
      clear hBW hB1 hC1 hF1 hB2 hC2 hF2 hBg hr hrf
      go_wp2_with fail
      refine wp_region_past (by kernel_rfl) (by kernel_rfl) ?_
      repeat (first | go_big_quiet_skip | (go_big_quiet_want; go_big_quiet_op; first | go_big_quiet_on | (apply Exists.intro; refine ⟨fun _ => ?_, ?_⟩; (focus ((go_at_call 61; exact past_draws (hG.out _)))); go_big_quiet_on)))
      refine wpQuiet_nil ?_
      intro w3 hw'
      have hB3 := past_below hw'
      clear hw'
      obtain ⟨hC3, hF3⟩ := bcell hB3
      have hS3 := hB3.size
      (try simp at hS3)
      (try have hS3_w0 : w.heap.size < w3.heap.size := by omega)
      (try have hS3_w1 : w.heap.size + 1 < w3.heap.size := by omega)
      (try have hS3_w2 : w.heap.size + 1 + 1 < w3.heap.size := by omega)
      (try have hS3_w3 : w.heap.size + 1 + 1 + 1 < w3.heap.size := by omega)
      (try have hS3_w4 : w.heap.size + 1 + 1 + 1 + 1 < w3.heap.size := by omega)
      (try have hS3_1 : w1.heap.size < w3.heap.size := by omega)
      (try have hS3_2 : w2.heap.size < w3.heap.size := by omega)
      (try have hS3_1' : w1.heap.size + 1 < w3.heap.size := by omega)
      (try have hS3_2' : w2.heap.size + 1 < w3.heap.size := by omega)
      have HB3 := Lib.hid hB3
      clear hx hx' hB3 hC3 hF3
      obtain ⟨X, hXX⟩ : ∃ X, X = crtX a a' L (K * e * b) (K * e' * b') := ⟨_, rfl⟩
      rw [← hXX] at hmem huni hX
      clear hXX
      obtain ⟨m1, m2, m3, m4⟩ := hmem.out
      have HM3 := Lib.hid m3
      have HM4 := Lib.hid m4
      clear m3 m4 hmem
      go_wp2_with fail
      go_loopw [8] (fun i wr => ∃ k : Int, 1 ≤ k ∧ k ≤ K ∧ i = .int .i64 (k * t) ∧ Hid (Below wg.heap.size wg wr)) (fun i _ => (K * t - intOf i).toNat)
      case atStart => exact ⟨1, by omega, K1, by rw [Int.one_mul], HB3.out⟩
      case round =>
        obtain ⟨k, hk1, hk2, rfl, hb⟩ := hrel
        have hbz := hb.out.size
        obtain ⟨wo, rfl⟩ : ∃ wo : World, wo = wr := ⟨_, rfl⟩
        have hx : ∀ o, wo.cell? ⟨w.heap.size, o, none⟩ = (#[.int .i64 a, .int .i64 b, .int .i64 d] : Array Value)[o]? := fun o => by rw [bG hb.out (by omega), HY.out]
        have hx' : ∀ o, wo.cell? ⟨w.heap.size + 1, o, none⟩ = (#[.int .i64 a', .int .i64 b', .int .i64 d'] : Array Value)[o]? := fun o => by rw [bG hb.out (by omega), HY'.out]
        have n0 : w.heap.size < wo.heap.size := by omega
        have n1 : w.heap.size + 1 < wo.heap.size := by omega
        obtain ⟨p1, p2, p3, p4, p5, p6, p7⟩ := mt_round hk1 (by omega) t1 t2 HED.out e1 e2 d1 b1 (by omega)
        obtain ⟨_, _, p3', p4', p5', p6', p7'⟩ := mt_round hk1 (by omega) t1 t2 HED'.out e1' e2' d1' b1' (by omega)
        by_cases hkK : k < K
        · have hz : ((k * e * b - k * e' * b').tmod g == 0) = false := by
            have : ¬ (k * e * b - k * e' * b').tmod g = 0 := fun h0 => by
              have := Int.le_of_dvd (by omega) ((hKd.out k).1 (Int.dvd_of_tmod_eq_zero h0))
              omega
            simp [this]
          have hst : Hid (k * t + t = (k + 1) * t) := by show _ = _; rw [Int.add_mul, Int.one_mul]
          have hle : Hid ((k + 1) * t ≤ K * t) := Lib.hid (Int.mul_le_mul_of_nonneg_right (by omega) (by omega))
          go_wp2_with fail
          refine wp_region_past (by kernel_rfl) (by kernel_rfl) ?_
          repeat (first | go_big_quiet_skip | (go_big_quiet_want; go_big_quiet_op; first | go_big_quiet_on | (apply Exists.intro; refine ⟨fun _ => ?_, ?_⟩; (focus (fail)); go_big_quiet_on)))
          refine wpQuiet_nil ?_
          intro w4 hw'
          have hB4 := past_below hw'
          clear hw'
          obtain ⟨hC4, hF4⟩ := bcell hB4
          have hS4 := hB4.size
          (try simp at hS4)
          (try have hS4_w0 : w.heap.size < w4.heap.size := by omega)
          (try have hS4_w1 : w.heap.size + 1 < w4.heap.size := by omega)
          (try have hS4_w2 : w.heap.size + 1 + 1 < w4.heap.size := by omega)
          (try have hS4_w3 : w.heap.size + 1 + 1 + 1 < w4.heap.size := by omega)
          (try have hS4_w4 : w.heap.size + 1 + 1 + 1 + 1 < w4.heap.size := by omega)
          (try have hS4_1 : w1.heap.size < w4.heap.size := by omega)
          (try have hS4_2 : w2.heap.size < w4.heap.size := by omega)
          (try have hS4_3 : w3.heap.size < w4.heap.size := by omega)
          (try have hS4_1' : w1.heap.size + 1 < w4.heap.size := by omega)
          (try have hS4_2' : w2.heap.size + 1 < w4.heap.size := by omega)
          (try have hS4_3' : w3.heap.size + 1 < w4.heap.size := by omega)
          go_wp2
          go_roundw
          case rel =>
            go_light
            exact ⟨k + 1, by omega, by omega, by rw [hst.out], hb.out.trans (hB4.mono (by omega))⟩
          case measure => simp [intOf]; have := hst.out; have := hle.out; omega
        · have hkK' : k = K := by omega
          subst hkK'
          have hz : ((k * e * b - k * e' * b').tmod g == 0) = true := by
            have : (k * e * b - k * e' * b').tmod g = 0 := Int.tmod_eq_zero_of_dvd ((hKd.out k).2 (Int.dvd_refl _))
            simp [this]
          go_wp2_with fail
          refine wp_region_past (by kernel_rfl) (by kernel_rfl) ?_
          repeat (first | go_big_quiet_skip | (go_big_quiet_want; go_big_quiet_op; first | go_big_quiet_on | (apply Exists.intro; refine ⟨fun _ => ?_, ?_⟩; (focus (fail)); go_big_quiet_on)))
          refine wpQuiet_nil ?_
          intro w5 hw'
          have hB5 := past_below hw'
          clear hw'
          obtain ⟨hC5, hF5⟩ := bcell hB5
          have hS5 := hB5.size
          (try simp at hS5)
          (try have hS5_w0 : w.heap.size < w5.heap.size := by omega)
          (try have hS5_w1 : w.heap.size + 1 < w5.heap.size := by omega)
          (try have hS5_w2 : w.heap.size + 1 + 1 < w5.heap.size := by omega)
          (try have hS5_w3 : w.heap.size + 1 + 1 + 1 < w5.heap.size := by omega)
          (try have hS5_w4 : w.heap.size + 1 + 1 + 1 + 1 < w5.heap.size := by omega)
          (try have hS5_1 : w1.heap.size < w5.heap.size := by omega)
          (try have hS5_2 : w2.heap.size < w5.heap.size := by omega)
          (try have hS5_3 : w3.heap.size < w5.heap.size := by omega)
          (try have hS5_4 : w4.heap.size < w5.heap.size := by omega)
          (try have hS5_1' : w1.heap.size + 1 < w5.heap.size := by omega)
          (try have hS5_2' : w2.heap.size + 1 < w5.heap.size := by omega)
          (try have hS5_3' : w3.heap.size + 1 < w5.heap.size := by omega)
          (try have hS5_4' : w4.heap.size + 1 < w5.heap.size := by omega)
          have hb5 := Lib.hid (hb.out.trans (hB5.mono hbz))
          clear hx hx' hB5 hC5 hF5
          have hx : ∀ o, w5.cell? ⟨w.heap.size, o, none⟩ = (#[.int .i64 a, .int .i64 b, .int .i64 d] : Array Value)[o]? := fun o => by rw [bG hb5.out (by omega), HY.out]
          have hx' : ∀ o, w5.cell? ⟨w.heap.size + 1, o, none⟩ = (#[.int .i64 a', .int .i64 b', .int .i64 d'] : Array Value)[o]? := fun o => by rw [bG hb5.out (by omega), HY'.out]
          go_wp2_with fail
          refine wp_region_past (by kernel_rfl) (by kernel_rfl) ?_
          repeat (first | go_big_quiet_skip | (go_big_quiet_want; go_big_quiet_op; first | go_big_quiet_on | (apply Exists.intro; refine ⟨fun _ => ?_, ?_⟩; (focus (fail)); go_big_quiet_on)))
          refine wpQuiet_nil ?_
          intro w6 hw'
          have hB6 := past_below hw'
          clear hw'
          obtain ⟨hC6, hF6⟩ := bcell hB6
          have hS6 := hB6.size
          (try simp at hS6)
          (try have hS6_w0 : w.heap.size < w6.heap.size := by omega)
          (try have hS6_w1 : w.heap.size + 1 < w6.heap.size := by omega)
          (try have hS6_w2 : w.heap.size + 1 + 1 < w6.heap.size := by omega)
          (try have hS6_w3 : w.heap.size + 1 + 1 + 1 < w6.heap.size := by omega)
          (try have hS6_w4 : w.heap.size + 1 + 1 + 1 + 1 < w6.heap.size := by omega)
          (try have hS6_1 : w1.heap.size < w6.heap.size := by omega)
          (try have hS6_2 : w2.heap.size < w6.heap.size := by omega)
          (try have hS6_3 : w3.heap.size < w6.heap.size := by omega)
          (try have hS6_4 : w4.heap.size < w6.heap.size := by omega)
          (try have hS6_5 : w5.heap.size < w6.heap.size := by omega)
          (try have hS6_1' : w1.heap.size + 1 < w6.heap.size := by omega)
          (try have hS6_2' : w2.heap.size + 1 < w6.heap.size := by omega)
          (try have hS6_3' : w3.heap.size + 1 < w6.heap.size := by omega)
          (try have hS6_4' : w4.heap.size + 1 < w6.heap.size := by omega)
          (try have hS6_5' : w5.heap.size + 1 < w6.heap.size := by omega)
          have hb6 := Lib.hid (hb5.out.trans (hB6.mono (by omega)))
          clear hx hx' hB6 hC6 hF6
          have hx : ∀ o, w6.cell? ⟨w.heap.size, o, none⟩ = (#[.int .i64 a, .int .i64 b, .int .i64 d] : Array Value)[o]? := fun o => by rw [bG hb6.out (by omega), HY.out]
          have hx' : ∀ o, w6.cell? ⟨w.heap.size + 1, o, none⟩ = (#[.int .i64 a', .int .i64 b', .int .i64 d'] : Array Value)[o]? := fun o => by rw [bG hb6.out (by omega), HY'.out]
          have hr : ∀ o, w6.cell? ⟨w.heap.size + 1 + 1, o, none⟩ = (#[.int .i64 0, .int .i64 0, .int .i64 0] : Array Value)[o]? := fun o => by rw [bG hb6.out (by omega), HYR.out]
          have hrf : ∀ o, w6.frozen? ⟨w.heap.size + 1 + 1, o, none⟩ = false := fun o => by rw [fG hb6.out (by omega), HYF.out]
          have hBW6 : Below w.heap.size w w6 := hBWg.out.trans (hb6.out.mono (by omega))
          have l2 : w.heap.size + 1 + 1 < w6.heap.size := by omega
          by_cases hok : L ≤ 1000 ∧ k * t ≤ 1000
          · obtain ⟨ok1, ok2⟩ := hok
            have hs2 : Hid (mtOk a b d a' b' d' = true) := by show _ = _; rw [hs.out, decide_eq_true ok1, decide_eq_true ok2]; rfl
            have M0 := Int.emod_nonneg (k * e * b) (show a ≠ 0 by omega)
            have M1 := Int.emod_lt_of_pos (k * e * b) (show 0 < a by omega)
            have hd0 : a ∣ k * e * b % a - k * e * b := ⟨-(k * e * b / a), by have := Int.emod_add_mul_ediv (k * e * b) a; rw [Int.mul_neg]; omega⟩
            have hle0 : k * e * b % a ≤ X := by
              rcases Int.lt_or_le X (k * e * b % a) with h | h
              · have h2 := Int.dvd_sub hd0 HM3.out
                rw [show k * e * b % a - k * e * b - (X - k * e * b) = k * e * b % a - X by omega] at h2
                have := Int.le_of_dvd (by omega) h2
                omega
              · exact h
            have HD0 := Lib.hid hd0
            clear hd0 hr hrf hBW6
            go_wp2_with fail
            refine wp_region_past (by kernel_rfl) (by kernel_rfl) ?_
            repeat (first | go_big_quiet_skip | (go_big_quiet_want; go_big_quiet_op; first | go_big_quiet_on | (apply Exists.intro; refine ⟨fun _ => ?_, ?_⟩; (focus ((go_at_call 63; exact past_same (mod_any _ _ _ ⟨by omega, by omega⟩ (by omega) (by omega))))); go_big_quiet_on)))
            refine wpQuiet_nil ?_
            intro w7 hw'
            have hB7 := past_below hw'
            clear hw'
            obtain ⟨hC7, hF7⟩ := bcell hB7
            have hS7 := hB7.size
            (try simp at hS7)
            (try have hS7_w0 : w.heap.size < w7.heap.size := by omega)
            (try have hS7_w1 : w.heap.size + 1 < w7.heap.size := by omega)
            (try have hS7_w2 : w.heap.size + 1 + 1 < w7.heap.size := by omega)
            (try have hS7_w3 : w.heap.size + 1 + 1 + 1 < w7.heap.size := by omega)
            (try have hS7_w4 : w.heap.size + 1 + 1 + 1 + 1 < w7.heap.size := by omega)
            (try have hS7_1 : w1.heap.size < w7.heap.size := by omega)
            (try have hS7_2 : w2.heap.size < w7.heap.size := by omega)
            (try have hS7_3 : w3.heap.size < w7.heap.size := by omega)
            (try have hS7_4 : w4.heap.size < w7.heap.size := by omega)
            (try have hS7_5 : w5.heap.size < w7.heap.size := by omega)
            (try have hS7_6 : w6.heap.size < w7.heap.size := by omega)
            (try have hS7_1' : w1.heap.size + 1 < w7.heap.size := by omega)
            (try have hS7_2' : w2.heap.size + 1 < w7.heap.size := by omega)
            (try have hS7_3' : w3.heap.size + 1 < w7.heap.size := by omega)
            (try have hS7_4' : w4.heap.size + 1 < w7.heap.size := by omega)
            (try have hS7_5' : w5.heap.size + 1 < w7.heap.size := by omega)
            (try have hS7_6' : w6.heap.size + 1 < w7.heap.size := by omega)
            have hb7 := Lib.hid (hb6.out.trans (hB7.mono (by omega)))
            clear hx hx' hB7 hC7 hF7
            go_wp2_with fail
            go_loopw [10] (fun i wr => ∃ x : Int, 0 ≤ x ∧ x ≤ X ∧ i = .int .i64 x ∧ Hid (a ∣ x - k * e * b) ∧ Hid (Below wg.heap.size wg wr)) (fun i _ => (X - intOf i).toNat)
            case atStart => exact ⟨k * e * b % a, M0, hle0, rfl, HD0.out, hb7.out⟩
            case round =>
              obtain ⟨x, hx0, hx1, rfl, hdx, hbx⟩ := hrel
              have hbxz := hbx.out.size
              obtain ⟨wq, rfl⟩ : ∃ wq : World, wq = wr := ⟨_, rfl⟩
              have hx : ∀ o, wq.cell? ⟨w.heap.size, o, none⟩ = (#[.int .i64 a, .int .i64 b, .int .i64 d] : Array Value)[o]? := fun o => by rw [bG hbx.out (by omega), HY.out]
              have hx' : ∀ o, wq.cell? ⟨w.heap.size + 1, o, none⟩ = (#[.int .i64 a', .int .i64 b', .int .i64 d'] : Array Value)[o]? := fun o => by rw [bG hbx.out (by omega), HY'.out]
              have q0 : w.heap.size < wq.heap.size := by omega
              have q1 : w.heap.size + 1 < wq.heap.size := by omega
              by_cases hdv : (x - k * e' * b') % a' = 0
              · have hxX := huni.out x hx0 (by omega) hdx.out (Int.dvd_of_emod_eq_zero hdv)
                subst hxX
                have hz2 : ((X - k * e' * b') % a' == 0) = true := by simp [hdv]
                clear hdv
                have hl : Hid (latB L X (k * t) = true) := by show _ = _; exact decide_eq_true ⟨L1, ok1, by omega, ok2, m1, m2⟩
                have hV : Hid (∀ w0, Calls Try.prog 79 #[.agg #[.int .i64 L, .int .i64 X, .int .i64 (k * t)]] w0 fun en w' => en = .returned (.tuple #[.agg #[.int .i64 L, .int .i64 X, .int .i64 (k * t)], .bool true]) ∧ Below w0.heap.size w0 w') := by
                  show ∀ w0, _
                  intro w0
                  have := validLattice_any L X (k * t) w0
                  rw [hl.out] at this
                  exact this
                have hMX : Hid (∀ w0, Calls Try.prog 63 #[.int .i64 X, .int .i64 L] w0 fun en w' => en = .returned (.int .i64 X) ∧ w0 = w') := by
                  show ∀ w0, _
                  intro w0
                  have := mod_any X L w0 ⟨by omega, by omega⟩ (by omega) (by omega)
                  rwa [Int.emod_eq_of_lt m1 m2] at this
                go_wp2_with fail
                refine wp_region_past (by kernel_rfl) (by kernel_rfl) ?_
                repeat (first | go_big_quiet_skip | (go_big_quiet_want; go_big_quiet_op; first | go_big_quiet_on | (apply Exists.intro; refine ⟨fun _ => ?_, ?_⟩; (focus ((go_at_call 63; exact past_same (mod_any _ _ _ ⟨by omega, by omega⟩ (by omega) (by omega))))); go_big_quiet_on)))
                refine wpQuiet_nil ?_
                intro w8 hw'
                have hB8 := past_below hw'
                clear hw'
                obtain ⟨hC8, hF8⟩ := bcell hB8
                have hS8 := hB8.size
                (try simp at hS8)
                (try have hS8_w0 : w.heap.size < w8.heap.size := by omega)
                (try have hS8_w1 : w.heap.size + 1 < w8.heap.size := by omega)
                (try have hS8_w2 : w.heap.size + 1 + 1 < w8.heap.size := by omega)
                (try have hS8_w3 : w.heap.size + 1 + 1 + 1 < w8.heap.size := by omega)
                (try have hS8_w4 : w.heap.size + 1 + 1 + 1 + 1 < w8.heap.size := by omega)
                (try have hS8_1 : w1.heap.size < w8.heap.size := by omega)
                (try have hS8_2 : w2.heap.size < w8.heap.size := by omega)
                (try have hS8_3 : w3.heap.size < w8.heap.size := by omega)
                (try have hS8_4 : w4.heap.size < w8.heap.size := by omega)
                (try have hS8_5 : w5.heap.size < w8.heap.size := by omega)
                (try have hS8_6 : w6.heap.size < w8.heap.size := by omega)
                (try have hS8_7 : w7.heap.size < w8.heap.size := by omega)
                (try have hS8_1' : w1.heap.size + 1 < w8.heap.size := by omega)
                (try have hS8_2' : w2.heap.size + 1 < w8.heap.size := by omega)
                (try have hS8_3' : w3.heap.size + 1 < w8.heap.size := by omega)
                (try have hS8_4' : w4.heap.size + 1 < w8.heap.size := by omega)
                (try have hS8_5' : w5.heap.size + 1 < w8.heap.size := by omega)
                (try have hS8_6' : w6.heap.size + 1 < w8.heap.size := by omega)
                (try have hS8_7' : w7.heap.size + 1 < w8.heap.size := by omega)
                have hb8 := Lib.hid (hbx.out.trans (hB8.mono (by omega)))
                clear hx hx' hB8 hC8 hF8
                go_wp2_with (go_at_call 63; refine (hMX.out _).mono ?_; rintro e w' ⟨rfl, rfl⟩)
                refine (hV.out _).mono ?_
                rintro ex wz ⟨rfl, hBz⟩
                have hzz2 := hBz.size
                have hb9 := Lib.hid (hb8.out.trans (hBz.mono (by omega)))
                have hr : ∀ o, wz.cell? ⟨w.heap.size + 1 + 1, o, none⟩ = (#[.int .i64 0, .int .i64 0, .int .i64 0] : Array Value)[o]? := fun o => by rw [bG hb9.out (by omega), HYR.out]
                have hrf : ∀ o, wz.frozen? ⟨w.heap.size + 1 + 1, o, none⟩ = false := fun o => by rw [fG hb9.out (by omega), HYF.out]
                have hBW9 : Below w.heap.size w wz := hBWg.out.trans (hb9.out.mono (by omega))
                have l9 : w.heap.size + 1 + 1 < wz.heap.size := by omega
                clear hBz
                go_wp2
                refine bodyPost_ret (v := .tuple #[.agg #[.int .i64 L, .int .i64 X, .int .i64 (k * t)], .bool true]) (by go_light; (try clear hC14); (try clear hF14); (try clear hB14); (try clear hC13); (try clear hF13); (try clear hB13); (try clear hC12); (try clear hF12); (try clear hB12); (try clear hC11); (try clear hF11); (try clear hB11); (try clear hC10); (try clear hF10); (try clear hB10); (try clear hC9); (try clear hF9); (try clear hB9); (try clear hC8); (try clear hF8); (try clear hB8); (try clear hC7); (try clear hF7); (try clear hB7); (try clear hC6); (try clear hF6); (try clear hB6); (try clear hC5); (try clear hF5); (try clear hB5); (try clear hC4); (try clear hF4); (try clear hB4); (try clear hC3); (try clear hF3); (try clear hB3); (try clear hC2); (try clear hF2); (try clear hB2); (try clear hC1); (try clear hF1); (try clear hB1); simp [results, Try.results45, go_sem, hr]) rfl ⟨by go_light; rw [hs2.out, hL.out, hX.out, hY.out]; rfl, ?_⟩
                repeat (first | with_reducible exact Below.refl _ _ | with_reducible assumption | ((with_reducible refine blA ?_ ?_); (focus (first | omega | (simp <;> omega)))) | (with_reducible refine blD ?_) | (with_reducible refine blN ?_) | ((with_reducible refine blS ?_ ?_); (focus (first | omega | (simp <;> omega)))) | ((with_reducible refine blT (by assumption) ?_ ?_); (focus (first | omega | (simp <;> omega)))))
              · have hne : x ≠ X := by
                  rintro rfl
                  exact hdv (Int.emod_eq_zero_of_dvd HM4.out)
                have hz2 : ((x - k * e' * b') % a' == 0) = false := by simp [hdv]
                have hadd : Hid (a ∣ x + a - k * e * b) := by
                  show _ ∣ _
                  rw [show x + a - k * e * b = x - k * e * b + a by omega]
                  exact Int.dvd_add hdx.out (Int.dvd_refl a)
                have hle1 : x + a ≤ X := by
                  have h2 := Int.dvd_sub HM3.out hdx.out
                  rw [show X - k * e * b - (x - k * e * b) = X - x by omega] at h2
                  have := Int.le_of_dvd (by omega) h2
                  omega
                clear hdv
                go_wp2_with fail
                refine wp_region_past (by kernel_rfl) (by kernel_rfl) ?_
                repeat (first | go_big_quiet_skip | (go_big_quiet_want; go_big_quiet_op; first | go_big_quiet_on | (apply Exists.intro; refine ⟨fun _ => ?_, ?_⟩; (focus ((go_at_call 63; exact past_same (mod_any _ _ _ ⟨by omega, by omega⟩ (by omega) (by omega))))); go_big_quiet_on)))
                refine wpQuiet_nil ?_
                intro w9 hw'
                have hB9 := past_below hw'
                clear hw'
                obtain ⟨hC9, hF9⟩ := bcell hB9
                have hS9 := hB9.size
                (try simp at hS9)
                (try have hS9_w0 : w.heap.size < w9.heap.size := by omega)
                (try have hS9_w1 : w.heap.size + 1 < w9.heap.size := by omega)
                (try have hS9_w2 : w.heap.size + 1 + 1 < w9.heap.size := by omega)
                (try have hS9_w3 : w.heap.size + 1 + 1 + 1 < w9.heap.size := by omega)
                (try have hS9_w4 : w.heap.size + 1 + 1 + 1 + 1 < w9.heap.size := by omega)
                (try have hS9_1 : w1.heap.size < w9.heap.size := by omega)
                (try have hS9_2 : w2.heap.size < w9.heap.size := by omega)
                (try have hS9_3 : w3.heap.size < w9.heap.size := by omega)
                (try have hS9_4 : w4.heap.size < w9.heap.size := by omega)
                (try have hS9_5 : w5.heap.size < w9.heap.size := by omega)
                (try have hS9_6 : w6.heap.size < w9.heap.size := by omega)
                (try have hS9_7 : w7.heap.size < w9.heap.size := by omega)
                (try have hS9_8 : w8.heap.size < w9.heap.size := by omega)
                (try have hS9_1' : w1.heap.size + 1 < w9.heap.size := by omega)
                (try have hS9_2' : w2.heap.size + 1 < w9.heap.size := by omega)
                (try have hS9_3' : w3.heap.size + 1 < w9.heap.size := by omega)
                (try have hS9_4' : w4.heap.size + 1 < w9.heap.size := by omega)
                (try have hS9_5' : w5.heap.size + 1 < w9.heap.size := by omega)
                (try have hS9_6' : w6.heap.size + 1 < w9.heap.size := by omega)
                (try have hS9_7' : w7.heap.size + 1 < w9.heap.size := by omega)
                (try have hS9_8' : w8.heap.size + 1 < w9.heap.size := by omega)
                have hb9 := Lib.hid (hbx.out.trans (hB9.mono (by omega)))
                have hx9 : ∀ o, w9.cell? ⟨w.heap.size, o, none⟩ = (#[.int .i64 a, .int .i64 b, .int .i64 d] : Array Value)[o]? := fun o => by rw [bG hb9.out (by omega), HY.out]
                clear hx hx' hB9 hC9 hF9
                go_wp2
                go_roundw
                case rel =>
                  go_light
                  exact ⟨x + a, by omega, hle1, rfl, hadd.out, hb9.out⟩
                case measure => simp [intOf]; omega
          · have hs2 : Hid (mtOk a b d a' b' d' = false) := by
              show _ = _
              rw [hs.out]
              by_cases h1 : L ≤ 1000
              · rw [decide_eq_false (p := k * t ≤ 1000) (fun h => hok ⟨h1, h⟩), Bool.and_false]
              · rw [decide_eq_false h1, Bool.false_and]
            by_cases h1 : L ≤ 1000
            · have h2 : ¬ k * t ≤ 1000 := fun h => hok ⟨h1, h⟩
              clear hok
              go_wp2
              refine bodyPost_ret (v := .tuple #[.agg #[.int .i64 0, .int .i64 0, .int .i64 0], .bool false]) (by go_light; (try clear hC14); (try clear hF14); (try clear hB14); (try clear hC13); (try clear hF13); (try clear hB13); (try clear hC12); (try clear hF12); (try clear hB12); (try clear hC11); (try clear hF11); (try clear hB11); (try clear hC10); (try clear hF10); (try clear hB10); (try clear hC9); (try clear hF9); (try clear hB9); (try clear hC8); (try clear hF8); (try clear hB8); (try clear hC7); (try clear hF7); (try clear hB7); (try clear hC6); (try clear hF6); (try clear hB6); (try clear hC5); (try clear hF5); (try clear hB5); (try clear hC4); (try clear hF4); (try clear hB4); (try clear hC3); (try clear hF3); (try clear hB3); (try clear hC2); (try clear hF2); (try clear hB2); (try clear hC1); (try clear hF1); (try clear hB1); simp [results, Try.results45, go_sem, hr]) rfl ⟨by go_light; rw [hs2.out]; rfl, ?_⟩
              repeat (first | with_reducible exact Below.refl _ _ | with_reducible assumption | ((with_reducible refine blA ?_ ?_); (focus (first | omega | (simp <;> omega)))) | (with_reducible refine blD ?_) | (with_reducible refine blN ?_) | ((with_reducible refine blS ?_ ?_); (focus (first | omega | (simp <;> omega)))) | ((with_reducible refine blT (by assumption) ?_ ?_); (focus (first | omega | (simp <;> omega)))))
            · clear hok
              go_wp2
              refine bodyPost_ret (v := .tuple #[.agg #[.int .i64 0, .int .i64 0, .int .i64 0], .bool false]) (by go_light; (try clear hC14); (try clear hF14); (try clear hB14); (try clear hC13); (try clear hF13); (try clear hB13); (try clear hC12); (try clear hF12); (try clear hB12); (try clear hC11); (try clear hF11); (try clear hB11); (try clear hC10); (try clear hF10); (try clear hB10); (try clear hC9); (try clear hF9); (try clear hB9); (try clear hC8); (try clear hF8); (try clear hB8); (try clear hC7); (try clear hF7); (try clear hB7); (try clear hC6); (try clear hF6); (try clear hB6); (try clear hC5); (try clear hF5); (try clear hB5); (try clear hC4); (try clear hF4); (try clear hB4); (try clear hC3); (try clear hF3); (try clear hB3); (try clear hC2); (try clear hF2); (try clear hB2); (try clear hC1); (try clear hF1); (try clear hB1); simp [results, Try.results45, go_sem, hr]) rfl ⟨by go_light; rw [hs2.out]; rfl, ?_⟩
              repeat (first | with_reducible exact Below.refl _ _ | with_reducible assumption | ((with_reducible refine blA ?_ ?_); (focus (first | omega | (simp <;> omega)))) | (with_reducible refine blD ?_) | (with_reducible refine blN ?_) | ((with_reducible refine blS ?_ ?_); (focus (first | omega | (simp <;> omega)))) | ((with_reducible refine blT (by assumption) ?_ ?_); (focus (first | omega | (simp <;> omega)))))
    · have c2' : latB a' b' d' = false := by simpa using c2
      have hs : Hid (mtOk a b d a' b' d' = false) := by show _ = _; rw [mtOk, c2', Bool.and_false, Bool.false_and]
      clear c2
      go_enter Try.func45, Try.ntmps45
      go_wp2_with (go_at_call 55; refine (isLattice_any _ _ _ _).mono ?_; rintro e w' ⟨rfl, hB⟩; obtain ⟨hC, hF⟩ := bcell hB; have hS := hB.size; (try simp at hS); (try have hSl := Nat.lt_of_succ_le hS); (try have hS0 : w.heap.size < w'.heap.size := by omega); (try have hS1 : w.heap.size + 1 < w'.heap.size := by omega); (try have hS2 : w.heap.size + 1 + 1 < w'.heap.size := by omega); (try have hS3 : w.heap.size + 1 + 1 + 1 < w'.heap.size := by omega))
      (refine bodyPost_ret (v := .tuple #[.agg #[.int .i64 0, .int .i64 0, .int .i64 0], .bool false]) ?_ rfl ⟨?_, ?_⟩; (focus (go_light; first | (simp [results, Try.results45, go_sem, *]; done) | (simp (disch := first | omega | (simp <;> omega) | (refine isSome_of ?_ ?_; (focus ((repeat (first | ((with_reducible refine (cell_alloc_old _ _ _ _ ?_).trans ?_); (focus (first | omega | (simp <;> omega)))) | ((with_reducible refine (bG (by assumption) ?_).trans ?_); (focus (first | omega | (simp <;> omega)))))); exact rfl)); simp [go_sem]) | fail) [results, Try.results45, go_sem, *]; done))); (focus (go_light; rw [hs.out]; rfl)); repeat (first | with_reducible exact Below.refl _ _ | with_reducible assumption | ((with_reducible refine blA ?_ ?_); (focus (first | omega | (simp <;> omega)))) | (with_reducible refine blD ?_) | (with_reducible refine blN ?_) | ((with_reducible refine blS ?_ ?_); (focus (first | omega | (simp <;> omega)))) | ((with_reducible refine blT (by assumption) ?_ ?_); (focus (first | omega | (simp <;> omega))))))
  · have c1' : latB a b d = false := by simpa using c1
    have hs : Hid (mtOk a b d a' b' d' = false) := by show _ = _; rw [mtOk, c1', Bool.false_and, Bool.false_and]
    clear c1
    go_enter Try.func45, Try.ntmps45
    go_wp2_with (go_at_call 55; refine (isLattice_any _ _ _ _).mono ?_; rintro e w' ⟨rfl, hB⟩; obtain ⟨hC, hF⟩ := bcell hB; have hS := hB.size; (try simp at hS); (try have hSl := Nat.lt_of_succ_le hS); (try have hS0 : w.heap.size < w'.heap.size := by omega); (try have hS1 : w.heap.size + 1 < w'.heap.size := by omega); (try have hS2 : w.heap.size + 1 + 1 < w'.heap.size := by omega); (try have hS3 : w.heap.size + 1 + 1 + 1 < w'.heap.size := by omega))
    (refine bodyPost_ret (v := .tuple #[.agg #[.int .i64 0, .int .i64 0, .int .i64 0], .bool false]) ?_ rfl ⟨?_, ?_⟩; (focus (go_light; first | (simp [results, Try.results45, go_sem, *]; done) | (simp (disch := first | omega | (simp <;> omega) | (refine isSome_of ?_ ?_; (focus ((repeat (first | ((with_reducible refine (cell_alloc_old _ _ _ _ ?_).trans ?_); (focus (first | omega | (simp <;> omega)))) | ((with_reducible refine (bG (by assumption) ?_).trans ?_); (focus (first | omega | (simp <;> omega)))))); exact rfl)); simp [go_sem]) | fail) [results, Try.results45, go_sem, *]; done))); (focus (go_light; rw [hs.out]; rfl)); repeat (first | with_reducible exact Below.refl _ _ | with_reducible assumption | ((with_reducible refine blA ?_ ?_); (focus (first | omega | (simp <;> omega)))) | (with_reducible refine blD ?_) | (with_reducible refine blN ?_) | ((with_reducible refine blS ?_ ?_); (focus (first | omega | (simp <;> omega)))) | ((with_reducible refine blT (by assumption) ?_ ?_); (focus (first | omega | (simp <;> omega))))))
theorem eqLattice_same4 (a b d : Int) (w : World) :
    Calls Try.prog 46 #[.agg #[.int .i64 a, .int .i64 b, .int .i64 d], .agg #[.int .i64 a, .int .i64 b, .int .i64 d]] w fun en w' => en = .returned (.bool true) ∧ Below w.heap.size w w' := by
  go_enter Try.func46, Try.ntmps46
  go_wp2
  go_ret
  refine ⟨rfl, ?_⟩
  repeat (first | with_reducible exact Below.refl _ _ | with_reducible assumption | ((with_reducible refine blA ?_ ?_); (focus (first | omega | (simp <;> omega)))) | (with_reducible refine blD ?_) | (with_reducible refine blN ?_) | ((with_reducible refine blS ?_ ?_); (focus (first | omega | (simp <;> omega)))) | ((with_reducible refine blT (by assumption) ?_ ?_); (focus (first | omega | (simp <;> omega)))))
set_option maxRecDepth 100000 in
set_option maxHeartbeats 2000000 in
theorem law_meetOfLattices (a b d a' b' d' : Int) (w : World) (ha : I64 a) (_ : I64 b) (_ : I64 d) (ha' : I64 a') (_ : I64 b') (_ : I64 d') :
    Calls Try.prog 12 #[.agg #[.int .i64 a, .int .i64 b, .int .i64 d], .agg #[.int .i64 a', .int .i64 b', .int .i64 d']] w fun en w' => en = .returned (.bool true) ∧ Below w.heap.size w w' := by
  go_enter Try.func12, Try.ntmps12
  go_wp2_with fail
  refine region_mixed 8 (by kernel_rfl) (by kernel_rfl) (by kernel_rfl) ?_
  apply Exists.intro
  refine ⟨fun w0 hw0 => ?_, ?_⟩
  · obtain ⟨hC0, hF0⟩ := bcell hw0
    have hS0 := hw0.size
    (try simp at hS0)
    (try have hS0_w0 : w.heap.size < w0.heap.size := by omega)
    (try have hS0_w1 : w.heap.size + 1 < w0.heap.size := by omega)
    (try have hS0_w2 : w.heap.size + 1 + 1 < w0.heap.size := by omega)
    (try have hS0_w3 : w.heap.size + 1 + 1 + 1 < w0.heap.size := by omega)
    (try have hS0_w4 : w.heap.size + 1 + 1 + 1 + 1 < w0.heap.size := by omega)
    (try have hL0_w0 : w.heap.size ≤ w0.heap.size := by omega)
    (try have hL0_w1 : w.heap.size + 1 ≤ w0.heap.size := by omega)
    (try have hL0_w2 : w.heap.size + 1 + 1 ≤ w0.heap.size := by omega)
    (try have hL0_w3 : w.heap.size + 1 + 1 + 1 ≤ w0.heap.size := by omega)
    (try have hL0_w : w.heap.size ≤ w0.heap.size + 1 := by omega)
    (try have hM0_1 : w.heap.size < w0.heap.size + 1 := by omega)
    (try have hM0_2 : w.heap.size < w0.heap.size + 1 + 1 := by omega)
    (try have hM0_3 : w.heap.size < w0.heap.size + 1 + 1 + 1 := by omega)
    simp only [List.take_succ_cons, List.take_zero]
    repeat (first | go_big_quiet_skip | (go_big_quiet_want; go_big_quiet_op; first | go_big_quiet_on | (apply Exists.intro; refine ⟨fun _ => ?_, ?_⟩; (focus (first | (go_at_call 16; exact past_of (toLattice_any _ _ _ _)) | (go_at_call 44; exact past_of (specMeet_any _ _ _ _ _ _ _ ha ha')))); go_big_quiet_on)))
    refine wpQuiet_nil ?_
    rfl
  intro W hW hWz
  simp only [List.drop_succ_cons, List.drop_zero]
  refine eff_new #[.int .i64 0, .int .i64 0, .int .i64 0] 25 [.int .i64 (iz (mtOk a b d a' b' d') (mtL a a')), .int .i64 (iz (mtOk a b d a' b' d') (mtX a b d a' b' d')), .int .i64 (iz (mtOk a b d a' b' d') (mtY a b d a' b' d'))] rfl rfl rfl rfl (fun _ => by simp [go_sem]) (cl_refl _) (fun wa wb hb => ?_) (fun w1 hV1 => ?_)
  · obtain ⟨hc, hf⟩ := bnew hb
    refine ⟨.skip, ?_, Or.inl rfl⟩
    simp [go_sem, setAll, Act.put, hc, hf]
  have hB1 := hW.trans (hV1.mono hW.size)
  obtain ⟨hC1, hF1⟩ := bcell hB1
  have hS1 := hB1.size
  (try simp at hS1)
  (try have hS1_w0 : w.heap.size < w1.heap.size := by omega)
  (try have hS1_w1 : w.heap.size + 1 < w1.heap.size := by omega)
  (try have hS1_w2 : w.heap.size + 1 + 1 < w1.heap.size := by omega)
  (try have hS1_w3 : w.heap.size + 1 + 1 + 1 < w1.heap.size := by omega)
  (try have hS1_w4 : w.heap.size + 1 + 1 + 1 + 1 < w1.heap.size := by omega)
  (try have hL1_w0 : w.heap.size ≤ w1.heap.size := by omega)
  (try have hL1_w1 : w.heap.size + 1 ≤ w1.heap.size := by omega)
  (try have hL1_w2 : w.heap.size + 1 + 1 ≤ w1.heap.size := by omega)
  (try have hL1_w3 : w.heap.size + 1 + 1 + 1 ≤ w1.heap.size := by omega)
  (try have hL1_w : w.heap.size ≤ w1.heap.size + 1 := by omega)
  (try have hM1_1 : w.heap.size < w1.heap.size + 1 := by omega)
  (try have hM1_2 : w.heap.size < w1.heap.size + 1 + 1 := by omega)
  (try have hM1_3 : w.heap.size < w1.heap.size + 1 + 1 + 1 := by omega)
  have hK : Cl W (w1.alloc (.cells #[.int .i64 (iz (mtOk a b d a' b' d') (mtL a a')), .int .i64 (iz (mtOk a b d a' b' d') (mtX a b d a' b' d')), .int .i64 (iz (mtOk a b d a' b' d') (mtY a b d a' b' d'))] 25)) := (cl_of hV1).alloc _
  refine eff_set _ rfl rfl hK ?_
  clear hK
  intro w2 hV2
  have hB2 := past_below hV2
  clear hV1 hV2 hW hWz
  obtain ⟨hC2, hF2⟩ := bcell hB2
  have hS2 := hB2.size
  (try simp at hS2)
  (try have hS2_w0 : w.heap.size < w2.heap.size := by omega)
  (try have hS2_w1 : w.heap.size + 1 < w2.heap.size := by omega)
  (try have hS2_w2 : w.heap.size + 1 + 1 < w2.heap.size := by omega)
  (try have hS2_w3 : w.heap.size + 1 + 1 + 1 < w2.heap.size := by omega)
  (try have hS2_w4 : w.heap.size + 1 + 1 + 1 + 1 < w2.heap.size := by omega)
  (try have hL2_w0 : w.heap.size ≤ w2.heap.size := by omega)
  (try have hL2_w1 : w.heap.size + 1 ≤ w2.heap.size := by omega)
  (try have hL2_w2 : w.heap.size + 1 + 1 ≤ w2.heap.size := by omega)
  (try have hL2_w3 : w.heap.size + 1 + 1 + 1 ≤ w2.heap.size := by omega)
  (try have hL2_w : w.heap.size ≤ w2.heap.size + 1 := by omega)
  (try have hM2_1 : w.heap.size < w2.heap.size + 1 := by omega)
  (try have hM2_2 : w.heap.size < w2.heap.size + 1 + 1 := by omega)
  (try have hM2_3 : w.heap.size < w2.heap.size + 1 + 1 + 1 := by omega)
  (try have hN2_1_00 : w1.heap.size < w2.heap.size := by omega)
  (try have hN2_1_01 : w1.heap.size < w2.heap.size + 1 := by omega)
  (try have hN2_1_02 : w1.heap.size < w2.heap.size + 1 + 1 := by omega)
  (try have hN2_1_10 : w1.heap.size + 1 < w2.heap.size := by omega)
  (try have hN2_1_11 : w1.heap.size + 1 < w2.heap.size + 1 := by omega)
  (try have hN2_1_12 : w1.heap.size + 1 < w2.heap.size + 1 + 1 := by omega)
  (try have hN2_1_20 : w1.heap.size + 1 + 1 < w2.heap.size := by omega)
  (try have hN2_1_21 : w1.heap.size + 1 + 1 < w2.heap.size + 1 := by omega)
  (try have hN2_1_22 : w1.heap.size + 1 + 1 < w2.heap.size + 1 + 1 := by omega)
  (try have hL2_1 : w1.heap.size ≤ w2.heap.size := by omega)
  (try have hS2_1 : w1.heap.size < w2.heap.size := by omega)
  (try have hS2_1' : w1.heap.size + 1 < w2.heap.size := by omega)
  simp only [Act.put, Act.eval, List.setIfInBounds_toArray, List.set_cons_zero, List.set_cons_succ]
  go_wp2_with fail
  refine region_mixed 8 (by kernel_rfl) (by kernel_rfl) (by kernel_rfl) ?_
  apply Exists.intro
  refine ⟨fun w0 hw0 => ?_, ?_⟩
  · obtain ⟨hC0, hF0⟩ := bcell hw0
    have hS0 := hw0.size
    (try simp at hS0)
    (try have hS0_w0 : w.heap.size < w0.heap.size := by omega)
    (try have hS0_w1 : w.heap.size + 1 < w0.heap.size := by omega)
    (try have hS0_w2 : w.heap.size + 1 + 1 < w0.heap.size := by omega)
    (try have hS0_w3 : w.heap.size + 1 + 1 + 1 < w0.heap.size := by omega)
    (try have hS0_w4 : w.heap.size + 1 + 1 + 1 + 1 < w0.heap.size := by omega)
    (try have hL0_w0 : w.heap.size ≤ w0.heap.size := by omega)
    (try have hL0_w1 : w.heap.size + 1 ≤ w0.heap.size := by omega)
    (try have hL0_w2 : w.heap.size + 1 + 1 ≤ w0.heap.size := by omega)
    (try have hL0_w3 : w.heap.size + 1 + 1 + 1 ≤ w0.heap.size := by omega)
    (try have hL0_w : w.heap.size ≤ w0.heap.size + 1 := by omega)
    (try have hM0_1 : w.heap.size < w0.heap.size + 1 := by omega)
    (try have hM0_2 : w.heap.size < w0.heap.size + 1 + 1 := by omega)
    (try have hM0_3 : w.heap.size < w0.heap.size + 1 + 1 + 1 := by omega)
    (try have hN0_1_00 : w1.heap.size < w0.heap.size := by omega)
    (try have hN0_1_01 : w1.heap.size < w0.heap.size + 1 := by omega)
    (try have hN0_1_02 : w1.heap.size < w0.heap.size + 1 + 1 := by omega)
    (try have hN0_1_10 : w1.heap.size + 1 < w0.heap.size := by omega)
    (try have hN0_1_11 : w1.heap.size + 1 < w0.heap.size + 1 := by omega)
    (try have hN0_1_12 : w1.heap.size + 1 < w0.heap.size + 1 + 1 := by omega)
    (try have hN0_1_20 : w1.heap.size + 1 + 1 < w0.heap.size := by omega)
    (try have hN0_1_21 : w1.heap.size + 1 + 1 < w0.heap.size + 1 := by omega)
    (try have hN0_1_22 : w1.heap.size + 1 + 1 < w0.heap.size + 1 + 1 := by omega)
    (try have hN0_2_00 : w2.heap.size < w0.heap.size := by omega)
    (try have hN0_2_01 : w2.heap.size < w0.heap.size + 1 := by omega)
    (try have hN0_2_02 : w2.heap.size < w0.heap.size + 1 + 1 := by omega)
    (try have hN0_2_10 : w2.heap.size + 1 < w0.heap.size := by omega)
    (try have hN0_2_11 : w2.heap.size + 1 < w0.heap.size + 1 := by omega)
    (try have hN0_2_12 : w2.heap.size + 1 < w0.heap.size + 1 + 1 := by omega)
    (try have hN0_2_20 : w2.heap.size + 1 + 1 < w0.heap.size := by omega)
    (try have hN0_2_21 : w2.heap.size + 1 + 1 < w0.heap.size + 1 := by omega)
    (try have hN0_2_22 : w2.heap.size + 1 + 1 < w0.heap.size + 1 + 1 := by omega)
    (try have hL0_1 : w1.heap.size ≤ w0.heap.size := by omega)
    (try have hL0_2 : w2.heap.size ≤ w0.heap.size := by omega)
    (try have hS0_1 : w1.heap.size < w0.heap.size := by omega)
    (try have hS0_1' : w1.heap.size + 1 < w0.heap.size := by omega)
    (try have hS0_2 : w2.heap.size < w0.heap.size := by omega)
    (try have hS0_2' : w2.heap.size + 1 < w0.heap.size := by omega)
    simp only [List.take_succ_cons, List.take_zero]
    repeat (first | go_big_quiet_skip | (go_big_quiet_want; go_big_quiet_op; first | go_big_quiet_on | (apply Exists.intro; refine ⟨fun _ => ?_, ?_⟩; (focus (first | (go_at_call 16; exact past_of (toLattice_any _ _ _ _)) | (go_at_call 45; exact past_of (implMeet_any _ _ _ _ _ _ _ ha ha')))); go_big_quiet_on)))
    refine wpQuiet_nil ?_
    rfl
  intro W hW hWz
  simp only [List.drop_succ_cons, List.drop_zero]
  refine eff_new #[.int .i64 0, .int .i64 0, .int .i64 0] 25 [.int .i64 (iz (mtOk a b d a' b' d') (mtL a a')), .int .i64 (iz (mtOk a b d a' b' d') (mtX a b d a' b' d')), .int .i64 (iz (mtOk a b d a' b' d') (mtY a b d a' b' d'))] rfl rfl rfl rfl (fun _ => by simp [go_sem]) (cl_refl _) (fun wa wb hb => ?_) (fun w3 hV3 => ?_)
  · obtain ⟨hc, hf⟩ := bnew hb
    refine ⟨.skip, ?_, Or.inl rfl⟩
    simp [go_sem, setAll, Act.put, hc, hf]
  have hB3 := hW.trans (hV3.mono hW.size)
  obtain ⟨hC3, hF3⟩ := bcell hB3
  have hS3 := hB3.size
  (try simp at hS3)
  (try have hS3_w0 : w.heap.size < w3.heap.size := by omega)
  (try have hS3_w1 : w.heap.size + 1 < w3.heap.size := by omega)
  (try have hS3_w2 : w.heap.size + 1 + 1 < w3.heap.size := by omega)
  (try have hS3_w3 : w.heap.size + 1 + 1 + 1 < w3.heap.size := by omega)
  (try have hS3_w4 : w.heap.size + 1 + 1 + 1 + 1 < w3.heap.size := by omega)
  (try have hL3_w0 : w.heap.size ≤ w3.heap.size := by omega)
  (try have hL3_w1 : w.heap.size + 1 ≤ w3.heap.size := by omega)
  (try have hL3_w2 : w.heap.size + 1 + 1 ≤ w3.heap.size := by omega)
  (try have hL3_w3 : w.heap.size + 1 + 1 + 1 ≤ w3.heap.size := by omega)
  (try have hL3_w : w.heap.size ≤ w3.heap.size + 1 := by omega)
  (try have hM3_1 : w.heap.size < w3.heap.size + 1 := by omega)
  (try have hM3_2 : w.heap.size < w3.heap.size + 1 + 1 := by omega)
  (try have hM3_3 : w.heap.size < w3.heap.size + 1 + 1 + 1 := by omega)
  (try have hN3_1_00 : w1.heap.size < w3.heap.size := by omega)
  (try have hN3_1_01 : w1.heap.size < w3.heap.size + 1 := by omega)
  (try have hN3_1_02 : w1.heap.size < w3.heap.size + 1 + 1 := by omega)
  (try have hN3_1_10 : w1.heap.size + 1 < w3.heap.size := by omega)
  (try have hN3_1_11 : w1.heap.size + 1 < w3.heap.size + 1 := by omega)
  (try have hN3_1_12 : w1.heap.size + 1 < w3.heap.size + 1 + 1 := by omega)
  (try have hN3_1_20 : w1.heap.size + 1 + 1 < w3.heap.size := by omega)
  (try have hN3_1_21 : w1.heap.size + 1 + 1 < w3.heap.size + 1 := by omega)
  (try have hN3_1_22 : w1.heap.size + 1 + 1 < w3.heap.size + 1 + 1 := by omega)
  (try have hN3_2_00 : w2.heap.size < w3.heap.size := by omega)
  (try have hN3_2_01 : w2.heap.size < w3.heap.size + 1 := by omega)
  (try have hN3_2_02 : w2.heap.size < w3.heap.size + 1 + 1 := by omega)
  (try have hN3_2_10 : w2.heap.size + 1 < w3.heap.size := by omega)
  (try have hN3_2_11 : w2.heap.size + 1 < w3.heap.size + 1 := by omega)
  (try have hN3_2_12 : w2.heap.size + 1 < w3.heap.size + 1 + 1 := by omega)
  (try have hN3_2_20 : w2.heap.size + 1 + 1 < w3.heap.size := by omega)
  (try have hN3_2_21 : w2.heap.size + 1 + 1 < w3.heap.size + 1 := by omega)
  (try have hN3_2_22 : w2.heap.size + 1 + 1 < w3.heap.size + 1 + 1 := by omega)
  (try have hL3_1 : w1.heap.size ≤ w3.heap.size := by omega)
  (try have hL3_2 : w2.heap.size ≤ w3.heap.size := by omega)
  (try have hS3_1 : w1.heap.size < w3.heap.size := by omega)
  (try have hS3_1' : w1.heap.size + 1 < w3.heap.size := by omega)
  (try have hS3_2 : w2.heap.size < w3.heap.size := by omega)
  (try have hS3_2' : w2.heap.size + 1 < w3.heap.size := by omega)
  have hK : Cl W (w3.alloc (.cells #[.int .i64 (iz (mtOk a b d a' b' d') (mtL a a')), .int .i64 (iz (mtOk a b d a' b' d') (mtX a b d a' b' d')), .int .i64 (iz (mtOk a b d a' b' d') (mtY a b d a' b' d'))] 25)) := (cl_of hV3).alloc _
  refine eff_set _ rfl rfl hK ?_
  clear hK
  intro w4 hV4
  have hB4 := past_below hV4
  clear hV3 hV4 hW hWz
  obtain ⟨hC4, hF4⟩ := bcell hB4
  have hS4 := hB4.size
  (try simp at hS4)
  (try have hS4_w0 : w.heap.size < w4.heap.size := by omega)
  (try have hS4_w1 : w.heap.size + 1 < w4.heap.size := by omega)
  (try have hS4_w2 : w.heap.size + 1 + 1 < w4.heap.size := by omega)
  (try have hS4_w3 : w.heap.size + 1 + 1 + 1 < w4.heap.size := by omega)
  (try have hS4_w4 : w.heap.size + 1 + 1 + 1 + 1 < w4.heap.size := by omega)
  (try have hL4_w0 : w.heap.size ≤ w4.heap.size := by omega)
  (try have hL4_w1 : w.heap.size + 1 ≤ w4.heap.size := by omega)
  (try have hL4_w2 : w.heap.size + 1 + 1 ≤ w4.heap.size := by omega)
  (try have hL4_w3 : w.heap.size + 1 + 1 + 1 ≤ w4.heap.size := by omega)
  (try have hL4_w : w.heap.size ≤ w4.heap.size + 1 := by omega)
  (try have hM4_1 : w.heap.size < w4.heap.size + 1 := by omega)
  (try have hM4_2 : w.heap.size < w4.heap.size + 1 + 1 := by omega)
  (try have hM4_3 : w.heap.size < w4.heap.size + 1 + 1 + 1 := by omega)
  (try have hN4_1_00 : w1.heap.size < w4.heap.size := by omega)
  (try have hN4_1_01 : w1.heap.size < w4.heap.size + 1 := by omega)
  (try have hN4_1_02 : w1.heap.size < w4.heap.size + 1 + 1 := by omega)
  (try have hN4_1_10 : w1.heap.size + 1 < w4.heap.size := by omega)
  (try have hN4_1_11 : w1.heap.size + 1 < w4.heap.size + 1 := by omega)
  (try have hN4_1_12 : w1.heap.size + 1 < w4.heap.size + 1 + 1 := by omega)
  (try have hN4_1_20 : w1.heap.size + 1 + 1 < w4.heap.size := by omega)
  (try have hN4_1_21 : w1.heap.size + 1 + 1 < w4.heap.size + 1 := by omega)
  (try have hN4_1_22 : w1.heap.size + 1 + 1 < w4.heap.size + 1 + 1 := by omega)
  (try have hN4_2_00 : w2.heap.size < w4.heap.size := by omega)
  (try have hN4_2_01 : w2.heap.size < w4.heap.size + 1 := by omega)
  (try have hN4_2_02 : w2.heap.size < w4.heap.size + 1 + 1 := by omega)
  (try have hN4_2_10 : w2.heap.size + 1 < w4.heap.size := by omega)
  (try have hN4_2_11 : w2.heap.size + 1 < w4.heap.size + 1 := by omega)
  (try have hN4_2_12 : w2.heap.size + 1 < w4.heap.size + 1 + 1 := by omega)
  (try have hN4_2_20 : w2.heap.size + 1 + 1 < w4.heap.size := by omega)
  (try have hN4_2_21 : w2.heap.size + 1 + 1 < w4.heap.size + 1 := by omega)
  (try have hN4_2_22 : w2.heap.size + 1 + 1 < w4.heap.size + 1 + 1 := by omega)
  (try have hN4_3_00 : w3.heap.size < w4.heap.size := by omega)
  (try have hN4_3_01 : w3.heap.size < w4.heap.size + 1 := by omega)
  (try have hN4_3_02 : w3.heap.size < w4.heap.size + 1 + 1 := by omega)
  (try have hN4_3_10 : w3.heap.size + 1 < w4.heap.size := by omega)
  (try have hN4_3_11 : w3.heap.size + 1 < w4.heap.size + 1 := by omega)
  (try have hN4_3_12 : w3.heap.size + 1 < w4.heap.size + 1 + 1 := by omega)
  (try have hN4_3_20 : w3.heap.size + 1 + 1 < w4.heap.size := by omega)
  (try have hN4_3_21 : w3.heap.size + 1 + 1 < w4.heap.size + 1 := by omega)
  (try have hN4_3_22 : w3.heap.size + 1 + 1 < w4.heap.size + 1 + 1 := by omega)
  (try have hL4_1 : w1.heap.size ≤ w4.heap.size := by omega)
  (try have hL4_2 : w2.heap.size ≤ w4.heap.size := by omega)
  (try have hL4_3 : w3.heap.size ≤ w4.heap.size := by omega)
  (try have hS4_1 : w1.heap.size < w4.heap.size := by omega)
  (try have hS4_1' : w1.heap.size + 1 < w4.heap.size := by omega)
  (try have hS4_2 : w2.heap.size < w4.heap.size := by omega)
  (try have hS4_2' : w2.heap.size + 1 < w4.heap.size := by omega)
  (try have hS4_3 : w3.heap.size < w4.heap.size := by omega)
  (try have hS4_3' : w3.heap.size + 1 < w4.heap.size := by omega)
  simp only [Act.put, Act.eval, List.setIfInBounds_toArray, List.set_cons_zero, List.set_cons_succ]
  go_wp2_with (go_at_call 46; refine (eqLattice_same4 _ _ _ _).mono ?_; rintro e w' ⟨rfl, hB⟩; obtain ⟨hC, hF⟩ := bcell hB; have hS := hB.size; (try simp at hS); (try have hSl := Nat.lt_of_succ_le hS); (try have hS0 : w.heap.size < w'.heap.size := by omega); (try have hS1 : w.heap.size + 1 < w'.heap.size := by omega); (try have hS2 : w.heap.size + 1 + 1 < w'.heap.size := by omega); (try have hS3 : w.heap.size + 1 + 1 + 1 < w'.heap.size := by omega))
  go_ret
  refine ⟨rfl, ?_⟩
  repeat (first | with_reducible exact Below.refl _ _ | with_reducible assumption | ((with_reducible refine blA ?_ ?_); (focus (first | omega | (simp <;> omega)))) | (with_reducible refine blD ?_) | (with_reducible refine blN ?_) | ((with_reducible refine blS ?_ ?_); (focus (first | omega | (simp <;> omega)))) | ((with_reducible refine blT (by assumption) ?_ ?_); (focus (first | omega | (simp <;> omega)))))
end Go.Proofs.Ytdeboabifcpdbaa
