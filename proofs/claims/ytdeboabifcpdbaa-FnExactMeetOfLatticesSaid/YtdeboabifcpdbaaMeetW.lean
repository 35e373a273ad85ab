/-
  MeetOfLattices: both ways, and the law.
-/
import Derived.Test.YtdeboabifcpdbaaMeet
import Derived.Test.YtdeboabifcpdbaaLaW
namespace Go.Proofs.Ytdeboabifcpdbaa
open Go.RowKit
attribute [local simp, local go_sem] past_cell past_frozen past_tape
/-- The numbers of two lattices. -/
def mtT (d d' : Int) : Int := d / (Int.gcd d d' : Int) * d'
def mtE (d d' : Int) : Int := d' / (Int.gcd d d' : Int)
def mtK (a b d a' b' d' : Int) : Int := mK (Int.gcd a a' : Int) (mtE d d' * b - mtE d' d * b')
def mtL (a a' : Int) : Int := a / (Int.gcd a a' : Int) * a'
def mtY (a b d a' b' d' : Int) : Int := mtK a b d a' b' d' * mtT d d'
def mtX (a b d a' b' d' : Int) : Int := crtX a a' (mtL a a') (mtK a b d a' b' d' * mtE d d' * b) (mtK a b d a' b' d' * mtE d' d * b')
def mtOk (a b d a' b' d' : Int) : Bool := (latB a b d && latB a' b' d') && (decide (mtL a a' ≤ 1000) && decide (mtY a b d a' b' d' ≤ 1000))
structure MtF (a b d a' b' d' g gd t e e' K L : Int) : Prop where
  ga : g = (Int.gcd a a' : Int)
  gdd : gd = (Int.gcd d d' : Int)
  g1 : 1 ≤ g
  g2 : g ≤ 1000
  gd1 : 1 ≤ gd
  gd2 : gd ≤ 1000
  t1 : 1 ≤ t
  t2 : t ≤ 1000000
  td : d / gd * d' = t
  ed : t = d * e
  ed' : t = d' * e'
  e1 : 1 ≤ e
  e2 : e ≤ 1000
  e1' : 1 ≤ e'
  e2' : e' ≤ 1000
  K1 : 1 ≤ K
  K2 : K ≤ g
  Kd : ∀ k : Int, g ∣ k * e * b - k * e' * b' ↔ K ∣ k
  al : a / g * a' = L
  ag1 : 1 ≤ a / g
  ag2 : a / g ≤ 1000
  L1 : 1 ≤ L
  L2 : L ≤ 1000000
  tE : mtT d d' = t
  eE : mtE d d' = e
  eE' : mtE d' d = e'
  KE : mtK a b d a' b' d' = K
  LE : mtL a a' = L
theorem part_bd {n g : Int} (hn1 : 1 ≤ n) (hn2 : n ≤ 1000) (hg : 1 ≤ g) (h : g ∣ n) : 1 ≤ n / g ∧ n / g ≤ 1000 ∧ g ≤ 1000 := by
  obtain ⟨p, hp⟩ := h
  have hq : n / g = p := by rw [hp, Int.mul_ediv_cancel_left _ (by omega)]
  have hp1 : 1 ≤ p := by
    rcases Int.lt_or_le 0 p with h | h
    · omega
    · have := Int.mul_nonpos_of_nonneg_of_nonpos (show 0 ≤ g by omega) h; omega
  have h1 := Int.mul_le_mul_of_nonneg_right hg (show 0 ≤ p by omega)
  have h2 := Int.mul_le_mul_of_nonneg_left hp1 (show 0 ≤ g by omega)
  rw [hq]
  omega
theorem mt_facts {a b d a' b' d' : Int} (h : latB a b d = true) (h' : latB a' b' d' = true) : ∃ g gd t e e' K L, MtF a b d a' b' d' g gd t e e' K L := by
  obtain ⟨a1, a2, d1, d2, b1, b2⟩ := latB_true h
  obtain ⟨a1', a2', d1', d2', b1', b2'⟩ := latB_true h'
  obtain ⟨p, q, hp, hq, _, hg1⟩ := gcd_parts (A := a) (A' := a') a1
  obtain ⟨r, s, hr, hs, _, hgd1⟩ := gcd_parts (A := d) (A' := d') d1
  obtain ⟨x1, x2, x3⟩ := part_bd a1 a2 hg1 ⟨p, hp⟩
  obtain ⟨y1, y2, y3⟩ := part_bd d1 d2 hgd1 ⟨r, hr⟩
  obtain ⟨z1, z2, _⟩ := part_bd d1' d2' hgd1 ⟨s, hs⟩
  obtain ⟨k1, k2, k3⟩ := mK_facts (g := (Int.gcd a a' : Int)) (mtE d d' * b - mtE d' d * b') hg1
  have hcomm : (Int.gcd d' d : Int) = (Int.gcd d d' : Int) := by rw [Int.gcd_comm]
  refine ⟨_, _, mtT d d', mtE d d', mtE d' d, mtK a b d a' b' d', mtL a a', rfl, rfl, hg1, x3, hgd1, y3, ?_, ?_, rfl, ?_, ?_, z1, z2, ?_, ?_, k1, k2, ?_, rfl, x1, x2, ?_, ?_, rfl, rfl, rfl, rfl, rfl⟩
  · exact Int.mul_le_mul y1 d1' (by omega) (by omega)
  · exact Int.mul_le_mul y2 d2' (by omega) (by omega)
  · show d / (Int.gcd d d' : Int) * d' = d * (d' / (Int.gcd d d' : Int))
    generalize (Int.gcd d d' : Int) = z at *
    have e1 : d / z = r := by rw [hr, Int.mul_ediv_cancel_left _ (by omega)]
    have e2 : d' / z = s := by rw [hs, Int.mul_ediv_cancel_left _ (by omega)]
    rw [e1, e2, hr, hs]; grind
  · show d / (Int.gcd d d' : Int) * d' = d' * (d / (Int.gcd d' d : Int))
    rw [hcomm, Int.mul_comm]
  · show 1 ≤ d / (Int.gcd d' d : Int)
    rw [hcomm]; exact y1
  · show d / (Int.gcd d' d : Int) ≤ 1000
    rw [hcomm]; exact y2
  · intro k
    have := k3 k
    rw [show k * mtE d d' * b - k * mtE d' d * b' = k * (mtE d d' * b - mtE d' d * b') by grind]
    exact this
  · exact Int.mul_le_mul x1 a1' (by omega) (by omega)
  · exact Int.mul_le_mul x2 a2' (by omega) (by omega)
/-- The numbers of a round. -/
theorem mt_round {k t e b d : Int} (hk1 : 1 ≤ k) (hk2 : k ≤ 1000) (ht1 : 1 ≤ t) (ht2 : t ≤ 1000000) (he : t = d * e) (he1 : 1 ≤ e) (he2 : e ≤ 1000) (hd : 1 ≤ d) (hb0 : 0 ≤ b) (hb1 : b < 1000) :
    k ≤ k * t ∧ k * t ≤ 1000000000 ∧ k * t / d = k * e ∧ 1 ≤ k * e ∧ k * e ≤ 1000000 ∧ 0 ≤ k * e * b ∧ k * e * b ≤ 1000000000 := by
  have h1 := Int.mul_le_mul_of_nonneg_left ht1 (show 0 ≤ k by omega)
  have h2 := Int.mul_le_mul hk2 ht2 (by omega) (by omega)
  have h3 : k * t / d = k * e := by rw [he, show k * (d * e) = d * (k * e) by grind, Int.mul_ediv_cancel_left _ (by omega)]
  have h4 := Int.mul_le_mul hk1 he1 (by omega) (by omega)
  have h5 := Int.mul_le_mul hk2 he2 (by omega) (by omega)
  have h6 := Int.mul_nonneg (show 0 ≤ k * e by omega) hb0
  have h7 := Int.mul_le_mul (show k * e ≤ 1000000 by omega) (show b ≤ 1000 by omega) hb0 (by omega)
  exact ⟨by omega, by omega, h3, by omega, by omega, h6, by omega⟩
theorem crtX_mod (A A' L c c' : Int) : crtX A A' L (c % A) (c' % A') = crtX A A' L c c' := by
  have h : ∀ x B z : Int, (x - z % B) % B = (x - z) % B := by
    intro x B z
    have := Int.emod_add_mul_ediv z B
    have e : x - z % B = x - z + B * (z / B) := by omega
    rw [e, Int.add_mul_emod_self_left]
  unfold crtX
  simp only [h]
set_option maxRecDepth 100000 in
set_option maxHeartbeats 1000000 in
theorem specMeet_any (a b d a' b' d' : Int) (w : World) (ha : I64 a) (ha' : I64 a') :
    Calls Try.prog 44 #[.agg #[.int .i64 a, .int .i64 b, .int .i64 d], .agg #[.int .i64 a', .int .i64 b', .int .i64 d']] w fun en w' => en = .returned (.tuple #[.agg #[.int .i64 (iz (mtOk a b d a' b' d') (mtL a a')), .int .i64 (iz (mtOk a b d a' b' d') (mtX a b d a' b' d')), .int .i64 (iz (mtOk a b d a' b' d') (mtY a b d a' b' d'))], .bool (mtOk a b d a' b' d')]) ∧ Below w.heap.size w w' := by
  by_cases c1 : latB a b d = true
  · by_cases c2 : latB a' b' d' = true
    · obtain ⟨g, gd, t, e, e', K, L, F⟩ := mt_facts c1 c2
      obtain ⟨a1, a2, d1, d2, b1, b2⟩ := latB_true c1
      obtain ⟨a1', a2', d1', d2', b1', b2'⟩ := latB_true c2
      obtain ⟨ga, gdd, g1, g2, gd1, gd2, t1, t2, td, ed, ed', e1, e2, e1', e2', K1, K2, Kd, al, ag1, ag2, L1, L2, tE, eE, eE', KE, LE⟩ := F
      have hG : Hid (∀ w0, Calls Try.prog 60 #[.int .i64 d, .int .i64 d'] w0 fun en w' => en = .returned (.int .i64 gd) ∧ ∃ q, w' = w0.drewN q) := by
        show ∀ w0, _
        intro w0
        have := nuGcd_any d d' w0 ⟨by omega, by omega⟩ ⟨by omega, by omega⟩
        rwa [← gdd] at this
      have hG2 : Hid (∀ w0, Calls Try.prog 60 #[.int .i64 a, .int .i64 a'] w0 fun en w' => en = .returned (.int .i64 g) ∧ Below w0.heap.size w0 w') := by
        show ∀ w0, _
        intro w0
        have := nuGcd_any a a' w0 ⟨by omega, by omega⟩ ⟨by omega, by omega⟩
        rw [← ga] at this
        exact this.mono fun _ _ ⟨h1, q, h2⟩ => ⟨h1, by rw [h2]; exact below_drewN (Below.refl _ _) _⟩
      have hs : Hid (mtOk a b d a' b' d' = (decide (L ≤ 1000) && decide (K * t ≤ 1000))) := by show _ = _; rw [mtOk, c1, c2, LE, mtY, KE, tE]; rfl
      have hY : Hid (mtY a b d a' b' d' = K * t) := by show _ = _; rw [mtY, KE, tE]
      have hL : Hid (mtL a a' = L) := LE
      have hX : Hid (mtX a b d a' b' d' = crtX a a' L (K * e * b) (K * e' * b')) := by show _ = _; rw [mtX, KE, eE, eE', LE]
      have hno : Hid (∀ k, 1 ≤ k → k < K → ∀ w0, Calls Try.prog 78 #[.int .i64 (k * e * b % a), .int .i64 a, .int .i64 (k * e' * b' % a'), .int .i64 a'] w0 fun en w' => en = .returned (.tuple #[.int .i64 0, .int .i64 0, .bool false]) ∧ Below w0.heap.size w0 w') := by
        show ∀ k, _ → _
        intro k hk1 hk2 w0
        have m1 := Int.emod_nonneg (k * e * b) (show a ≠ 0 by omega)
        have m2 := Int.emod_lt_of_pos (k * e * b) (show 0 < a by omega)
        have m3 := Int.emod_nonneg (k * e' * b') (show a' ≠ 0 by omega)
        have m4 := Int.emod_lt_of_pos (k * e' * b') (show 0 < a' by omega)
        refine nuCommon_no _ _ _ _ w0 ⟨by omega, by omega⟩ ⟨by omega, by omega⟩ a1 a2 a1' a2' fun h => ?_
        rw [← ga] at h
        have h3 : g ∣ k * e * b - k * e' * b' := by
          have x1 : g ∣ a := by rw [ga]; exact Int.gcd_dvd_left _ _
          have x2 : g ∣ a' := by rw [ga]; exact Int.gcd_dvd_right _ _
          have y1 : g ∣ k * e * b - k * e * b % a := Int.dvd_trans x1 ⟨k * e * b / a, by have := Int.emod_add_mul_ediv (k * e * b) a; omega⟩
          have y2 : g ∣ k * e' * b' - k * e' * b' % a' := Int.dvd_trans x2 ⟨k * e' * b' / a', by have := Int.emod_add_mul_ediv (k * e' * b') a'; omega⟩
          have := Int.dvd_sub (Int.dvd_sub y1 y2) h
          rwa [show k * e * b - k * e * b % a - (k * e' * b' - k * e' * b' % a') - (k * e' * b' % a' - k * e * b % a) = k * e * b - k * e' * b' by omega] at this
        have := Int.le_of_dvd (by omega) ((Kd k).1 h3)
        omega
      have hyes : Hid (∀ w0, Calls Try.prog 78 #[.int .i64 (K * e * b % a), .int .i64 a, .int .i64 (K * e' * b' % a'), .int .i64 a'] w0 fun en w' => en = .returned (.tuple #[.int .i64 (crtX a a' L (K * e * b) (K * e' * b')), .int .i64 L, .bool true]) ∧ Below w0.heap.size w0 w') := by
        show ∀ w0, _
        intro w0
        have m1 := Int.emod_nonneg (K * e * b) (show a ≠ 0 by omega)
        have m2 := Int.emod_lt_of_pos (K * e * b) (show 0 < a by omega)
        have m3 := Int.emod_nonneg (K * e' * b') (show a' ≠ 0 by omega)
        have m4 := Int.emod_lt_of_pos (K * e' * b') (show 0 < a' by omega)
        have h3 : g ∣ K * e * b - K * e' * b' := (Kd K).2 (Int.dvd_refl _)
        have h4 : (Int.gcd a a' : Int) ∣ K * e' * b' % a' - K * e * b % a := by
          rw [← ga]
          have x1 : g ∣ a := by rw [ga]; exact Int.gcd_dvd_left _ _
          have x2 : g ∣ a' := by rw [ga]; exact Int.gcd_dvd_right _ _
          have y1 : g ∣ K * e * b - K * e * b % a := Int.dvd_trans x1 ⟨K * e * b / a, by have := Int.emod_add_mul_ediv (K * e * b) a; omega⟩
          have y2 : g ∣ K * e' * b' - K * e' * b' % a' := Int.dvd_trans x2 ⟨K * e' * b' / a', by have := Int.emod_add_mul_ediv (K * e' * b') a'; omega⟩
          have := Int.dvd_sub (Int.dvd_sub y1 y2) h3
          rwa [show K * e * b - K * e * b % a - (K * e' * b' - K * e' * b' % a') - (K * e * b - K * e' * b') = K * e' * b' % a' - K * e * b % a by omega] at this
        have := nuCommon_yes _ _ _ _ w0 ⟨by omega, by omega⟩ ⟨by omega, by omega⟩ a1 a2 a1' a2' h4
        rwa [← ga, al, crtX_mod] at this
      have hmem : 0 ≤ crtX a a' L (K * e * b) (K * e' * b') ∧ crtX a a' L (K * e * b) (K * e' * b') < L := by
        have h3 : (Int.gcd a a' : Int) ∣ K * e' * b' - K * e * b := by
          rw [← ga]
          have := (Kd K).2 (Int.dvd_refl _)
          have := Int.dvd_neg.2 this
          rwa [show -(K * e * b - K * e' * b') = K * e' * b' - K * e * b by omega] at this
        have := crt_mem (c := K * e * b) (c' := K * e' * b') a1 a1' h3
        rw [← ga, al] at this
        exact ⟨this.1, this.2.1⟩
      generalize crtX a a' L (K * e * b) (K * e' * b') = X at *
      have HED := Lib.hid ed
      have HED' := Lib.hid ed'
      have HKT := Lib.hid tE
      clear ed ed' tE eE eE' KE LE ga gdd al Kd
      go_enter Try.func44, Try.ntmps44
      go_wp2_with fail
      refine (laGood_any _ _ _ _ (by assumption)).mono ?_
      rintro e1 w1 ⟨rfl, hB1⟩
      obtain ⟨hC1, hF1⟩ := bcell hB1
      have hS1 := hB1.size
      (try simp at hS1)
      (try have hS1_w0 : w.heap.size < w1.heap.size := by omega)
      (try have hS1_w1 : w.heap.size + 1 < w1.heap.size := by omega)
      (try have hS1_w2 : w.heap.size + 1 + 1 < w1.heap.size := by omega)
      (try have hS1_w3 : w.heap.size + 1 + 1 + 1 < w1.heap.size := by omega)
      (try have hS1_w4 : w.heap.size + 1 + 1 + 1 + 1 < w1.heap.size := by omega)
      (try have hL1_w0 : w.heap.size ≤ w1.heap.size := by omega)
      (try have hL1_w1 : w.heap.size + 1 ≤ w1.heap.size := by omega)
      (try have hL1_w2 : w.heap.size + 1 + 1 ≤ w1.heap.size := by omega)
      (try have hL1_w3 : w.heap.size + 1 + 1 + 1 ≤ w1.heap.size := by omega)
      (try have hL1_w : w.heap.size ≤ w1.heap.size + 1 := by omega)
      (try have hM1_1 : w.heap.size < w1.heap.size + 1 := by omega)
      (try have hM1_2 : w.heap.size < w1.heap.size + 1 + 1 := by omega)
      (try have hM1_3 : w.heap.size < w1.heap.size + 1 + 1 + 1 := by omega)
      go_wp2_with fail
      refine (laGood_any _ _ _ _ (by assumption)).mono ?_
      rintro e2 w2 ⟨rfl, hB2⟩
      obtain ⟨hC2, hF2⟩ := bcell hB2
      have hS2 := hB2.size
      (try simp at hS2)
      (try have hS2_w0 : w.heap.size < w2.heap.size := by omega)
      (try have hS2_w1 : w.heap.size + 1 < w2.heap.size := by omega)
      (try have hS2_w2 : w.heap.size + 1 + 1 < w2.heap.size := by omega)
      (try have hS2_w3 : w.heap.size + 1 + 1 + 1 < w2.heap.size := by omega)
      (try have hS2_w4 : w.heap.size + 1 + 1 + 1 + 1 < w2.heap.size := by omega)
      (try have hL2_w0 : w.heap.size ≤ w2.heap.size := by omega)
      (try have hL2_w1 : w.heap.size + 1 ≤ w2.heap.size := by omega)
      (try have hL2_w2 : w.heap.size + 1 + 1 ≤ w2.heap.size := by omega)
      (try have hL2_w3 : w.heap.size + 1 + 1 + 1 ≤ w2.heap.size := by omega)
      (try have hL2_w : w.heap.size ≤ w2.heap.size + 1 := by omega)
      (try have hM2_1 : w.heap.size < w2.heap.size + 1 := by omega)
      (try have hM2_2 : w.heap.size < w2.heap.size + 1 + 1 := by omega)
      (try have hM2_3 : w.heap.size < w2.heap.size + 1 + 1 + 1 := by omega)
      (try have hN2_1_00 : w1.heap.size < w2.heap.size := by omega)
      (try have hN2_1_01 : w1.heap.size < w2.heap.size + 1 := by omega)
      (try have hN2_1_02 : w1.heap.size < w2.heap.size + 1 + 1 := by omega)
      (try have hN2_1_10 : w1.heap.size + 1 < w2.heap.size := by omega)
      (try have hN2_1_11 : w1.heap.size + 1 < w2.heap.size + 1 := by omega)
      (try have hN2_1_12 : w1.heap.size + 1 < w2.heap.size + 1 + 1 := by omega)
      (try have hN2_1_20 : w1.heap.size + 1 + 1 < w2.heap.size := by omega)
      (try have hN2_1_21 : w1.heap.size + 1 + 1 < w2.heap.size + 1 := by omega)
      (try have hN2_1_22 : w1.heap.size + 1 + 1 < w2.heap.size + 1 + 1 := by omega)
      (try have hL2_1 : w1.heap.size ≤ w2.heap.size := by omega)
      (try have hS2_1 : w1.heap.size < w2.heap.size := by omega)
      (try have hS2_1' : w1.heap.size + 1 < w2.heap.size := by omega)
      have hx : ∀ o, w2.cell? ⟨w.heap.size, o, none⟩ = (#[.int .i64 a, .int .i64 b, .int .i64 d] : Array Value)[o]? := by (intro o; (repeat (first | ((with_reducible refine (cell_alloc_old _ _ _ _ ?_).trans ?_); (focus (first | omega | (simp <;> omega)))) | ((with_reducible refine (bC (by assumption) ?_).trans ?_); (focus (first | omega | (simp <;> omega)))) | ((with_reducible refine (bG (by assumption) ?_).trans ?_); (focus (first | omega | (simp <;> omega)))))); simp [go_sem])
      have hx' : ∀ o, w2.cell? ⟨w.heap.size + 1, o, none⟩ = (#[.int .i64 a', .int .i64 b', .int .i64 d'] : Array Value)[o]? := by (intro o; (repeat (first | ((with_reducible refine (cell_alloc_old _ _ _ _ ?_).trans ?_); (focus (first | omega | (simp <;> omega)))) | ((with_reducible refine (bC (by assumption) ?_).trans ?_); (focus (first | omega | (simp <;> omega)))) | ((with_reducible refine (bG (by assumption) ?_).trans ?_); (focus (first | omega | (simp <;> omega)))))); simp [go_sem])
      have hr : ∀ o, w2.cell? ⟨w.heap.size + 1 + 1, o, none⟩ = (#[.int .i64 0, .int .i64 0, .int .i64 0] : Array Value)[o]? := by (intro o; (repeat (first | ((with_reducible refine (cell_alloc_old _ _ _ _ ?_).trans ?_); (focus (first | omega | (simp <;> omega)))) | ((with_reducible refine (bC (by assumption) ?_).trans ?_); (focus (first | omega | (simp <;> omega)))) | ((with_reducible refine (bG (by assumption) ?_).trans ?_); (focus (first | omega | (simp <;> omega)))))); simp [go_sem])
      have hrf : ∀ o, w2.frozen? ⟨w.heap.size + 1 + 1, o, none⟩ = false := by (intro o; (repeat (first | ((with_reducible refine (frozen_alloc_old _ _ _ _ ?_).trans ?_); (focus (first | omega | (simp <;> omega)))) | ((with_reducible refine (fG (by assumption) ?_).trans ?_); (focus (first | omega | (simp <;> omega)))))); simp [go_sem])
      have hBW : Below w.heap.size w w2 := by repeat (first | with_reducible exact Below.refl _ _ | with_reducible assumption | ((with_reducible refine blA ?_ ?_); (focus (first | omega | (simp <;> omega)))) | (with_reducible refine blD ?_) | (with_reducible refine blN ?_) | ((with_reducible refine blS ?_ ?_); (focus (first | omega | (simp <;> omega)))) | ((with_reducible refine blT (by assumption) ?_ ?_); (focus (first | omega | (simp <;> omega)))))
      have hBW2 := Lib.hid hBW
      have hzz : w.heap.size + 1 + 1 < w2.heap.size := by omega
      clear hBW hB1 hC1 hF1 hB2 hC2 hF2
      go_wp2_with fail
      refine wp_region_past (by kernel_rfl) (by kernel_rfl) ?_
      repeat (first | go_big_quiet_skip | (go_big_quiet_want; go_big_quiet_op; first | go_big_quiet_on | (apply Exists.intro; refine ⟨fun _ => ?_, ?_⟩; (focus ((go_at_call 60; exact past_draws (hG.out _)))); go_big_quiet_on)))
      refine wpQuiet_nil ?_
      intro w3 hw'
      have hB3 := past_below hw'
      clear hw'
      obtain ⟨hC3, hF3⟩ := bcell hB3
      have hS3 := hB3.size
      (try simp at hS3)
      (try have hS3_w0 : w.heap.size < w3.heap.size := by omega)
      (try have hS3_w1 : w.heap.size + 1 < w3.heap.size := by omega)
      (try have hS3_w2 : w.heap.size + 1 + 1 < w3.heap.size := by omega)
      (try have hS3_w3 : w.heap.size + 1 + 1 + 1 < w3.heap.size := by omega)
      (try have hS3_w4 : w.heap.size + 1 + 1 + 1 + 1 < w3.heap.size := by omega)
      (try have hS3_1 : w1.heap.size < w3.heap.size := by omega)
      (try have hS3_2 : w2.heap.size < w3.heap.size := by omega)
      (try have hS3_1' : w1.heap.size + 1 < w3.heap.size := by omega)
      (try have hS3_2' : w2.heap.size + 1 < w3.heap.size := by omega)
      have hy : ∀ o, w3.cell? ⟨w.heap.size, o, none⟩ = (#[.int .i64 a, .int .i64 b, .int .i64 d] : Array Value)[o]? := fun o => by rw [bG hB3 (by omega), hx]
      have hy' : ∀ o, w3.cell? ⟨w.heap.size + 1, o, none⟩ = (#[.int .i64 a', .int .i64 b', .int .i64 d'] : Array Value)[o]? := fun o => by rw [bG hB3 (by omega), hx']
      have hyr : ∀ o, w3.cell? ⟨w.heap.size + 1 + 1, o, none⟩ = (#[.int .i64 0, .int .i64 0, .int .i64 0] : Array Value)[o]? := fun o => by rw [bG hB3 (by omega), hr]
      have hyf : ∀ o, w3.frozen? ⟨w.heap.size + 1 + 1, o, none⟩ = false := fun o => by rw [fG hB3 (by omega), hrf]
      have hBW3 := Lib.hid (hBW2.out.trans (hB3.mono (by omega)))
      have hz3 : w.heap.size + 1 + 1 < w3.heap.size := by have := hB3.size; omega
      clear hB3 hC3 hF3 hx hx' hr hrf
      have HY := Lib.hid hy
      have HY' := Lib.hid hy'
      have HYR := Lib.hid hyr
      have HYF := Lib.hid hyf
      clear hy hy' hyr hyf
      go_wp2
      go_loopw [7] (fun i wr => ∃ k : Int, 1 ≤ k ∧ k ≤ K ∧ i = .int .i64 k ∧ Hid (Below w3.heap.size w3 wr)) (fun i _ => (K + 1 - intOf i).toNat)
      case atStart => exact ⟨1, by omega, K1, rfl, Below.refl _ _⟩
      case round =>
        obtain ⟨k, hk1, hk2, rfl, hb⟩ := hrel
        have hbz := hb.out.size
        obtain ⟨wo, rfl⟩ : ∃ wo : World, wo = wr := ⟨_, rfl⟩
        have hx : ∀ o, wo.cell? ⟨w.heap.size, o, none⟩ = (#[.int .i64 a, .int .i64 b, .int .i64 d] : Array Value)[o]? := fun o => by rw [bG hb.out (by omega), HY.out]
        have hx' : ∀ o, wo.cell? ⟨w.heap.size + 1, o, none⟩ = (#[.int .i64 a', .int .i64 b', .int .i64 d'] : Array Value)[o]? := fun o => by rw [bG hb.out (by omega), HY'.out]
        obtain ⟨p1, p2, p3, p4, p5, p6, p7⟩ := mt_round hk1 (by omega) t1 t2 HED.out e1 e2 d1 b1 (by omega)
        obtain ⟨_, _, p3', p4', p5', p6', p7'⟩ := mt_round hk1 (by omega) t1 t2 HED'.out e1' e2' d1' b1' (by omega)
        have hkg : k ≤ g := by omega
        have l0 : w.heap.size < wo.heap.size := by omega
        have l1 : w.heap.size + 1 < wo.heap.size := by omega
        have l2 : w.heap.size + 1 + 1 < wo.heap.size := by omega
        by_cases hkK : k < K
        · have hN := Lib.hid (hno.out k hk1 hkK)
          go_wp2_with fail
          refine (hG2.out _).mono ?_
          rintro ex wq ⟨rfl, hBq⟩
          have hzq := hBq.size
          have hbq := Lib.hid (hb.out.trans (hBq.mono hbz))
          clear hx hx' hBq
          have hx : ∀ o, wq.cell? ⟨w.heap.size, o, none⟩ = (#[.int .i64 a, .int .i64 b, .int .i64 d] : Array Value)[o]? := fun o => by rw [bG hbq.out (by omega), HY.out]
          have hx' : ∀ o, wq.cell? ⟨w.heap.size + 1, o, none⟩ = (#[.int .i64 a', .int .i64 b', .int .i64 d'] : Array Value)[o]? := fun o => by rw [bG hbq.out (by omega), HY'.out]
          have hr : ∀ o, wq.cell? ⟨w.heap.size + 1 + 1, o, none⟩ = (#[.int .i64 0, .int .i64 0, .int .i64 0] : Array Value)[o]? := fun o => by rw [bG hbq.out (by omega), HYR.out]
          have hrf : ∀ o, wq.frozen? ⟨w.heap.size + 1 + 1, o, none⟩ = false := fun o => by rw [fG hbq.out (by omega), HYF.out]
          have l0 : w.heap.size < wq.heap.size := by omega
          have l1 : w.heap.size + 1 < wq.heap.size := by omega
          have l2 : w.heap.size + 1 + 1 < wq.heap.size := by omega
          go_wp2_with fail
          refine wp_region_past (by kernel_rfl) (by kernel_rfl) ?_
          repeat (first | go_big_quiet_skip | (go_big_quiet_want; go_big_quiet_op; first | go_big_quiet_on | (apply Exists.intro; refine ⟨fun _ => ?_, ?_⟩; (focus (first | (go_at_call 62; exact past_same (nuMod_any _ _ _ ⟨by omega, by omega⟩ (by omega) (by omega))) | (go_at_call 78; exact past_of (hN.out _)))); go_big_quiet_on)))
          refine wpQuiet_nil ?_
          intro w4 hw'
          have hB4 := past_below hw'
          clear hw'
          obtain ⟨hC4, hF4⟩ := bcell hB4
          have hS4 := hB4.size
          (try simp at hS4)
          (try have hS4_w0 : w.heap.size < w4.heap.size := by omega)
          (try have hS4_w1 : w.heap.size + 1 < w4.heap.size := by omega)
          (try have hS4_w2 : w.heap.size + 1 + 1 < w4.heap.size := by omega)
          (try have hS4_w3 : w.heap.size + 1 + 1 + 1 < w4.heap.size := by omega)
          (try have hS4_w4 : w.heap.size + 1 + 1 + 1 + 1 < w4.heap.size := by omega)
          (try have hS4_1 : w1.heap.size < w4.heap.size := by omega)
          (try have hS4_2 : w2.heap.size < w4.heap.size := by omega)
          (try have hS4_3 : w3.heap.size < w4.heap.size := by omega)
          (try have hS4_1' : w1.heap.size + 1 < w4.heap.size := by omega)
          (try have hS4_2' : w2.heap.size + 1 < w4.heap.size := by omega)
          (try have hS4_3' : w3.heap.size + 1 < w4.heap.size := by omega)
          go_wp2
          go_roundw
          case rel =>
            go_light
            exact ⟨k + 1, by omega, by omega, rfl, hbq.out.trans (hB4.mono (by omega))⟩
          case measure => simp [intOf]; omega
        · have hkK' : k = K := by omega
          subst hkK'
          have hN := Lib.hid hyes.out
          obtain ⟨m1, m2⟩ := hmem
          go_wp2_with fail
          refine (hG2.out _).mono ?_
          rintro ex wq ⟨rfl, hBq⟩
          have hzq := hBq.size
          have hbq := Lib.hid (hb.out.trans (hBq.mono hbz))
          clear hx hx' hBq
          have hx : ∀ o, wq.cell? ⟨w.heap.size, o, none⟩ = (#[.int .i64 a, .int .i64 b, .int .i64 d] : Array Value)[o]? := fun o => by rw [bG hbq.out (by omega), HY.out]
          have hx' : ∀ o, wq.cell? ⟨w.heap.size + 1, o, none⟩ = (#[.int .i64 a', .int .i64 b', .int .i64 d'] : Array Value)[o]? := fun o => by rw [bG hbq.out (by omega), HY'.out]
          have hr : ∀ o, wq.cell? ⟨w.heap.size + 1 + 1, o, none⟩ = (#[.int .i64 0, .int .i64 0, .int .i64 0] : Array Value)[o]? := fun o => by rw [bG hbq.out (by omega), HYR.out]
          have hrf : ∀ o, wq.frozen? ⟨w.heap.size + 1 + 1, o, none⟩ = false := fun o => by rw [fG hbq.out (by omega), HYF.out]
          have l0 : w.heap.size < wq.heap.size := by omega
          have l1 : w.heap.size + 1 < wq.heap.size := by omega
          have l2 : w.heap.size + 1 + 1 < wq.heap.size := by omega
          go_wp2_with fail
          refine wp_region_past (by kernel_rfl) (by kernel_rfl) ?_
          repeat (first | go_big_quiet_skip | (go_big_quiet_want; go_big_quiet_op; first | go_big_quiet_on | (apply Exists.intro; refine ⟨fun _ => ?_, ?_⟩; (focus (first | (go_at_call 62; exact past_same (nuMod_any _ _ _ ⟨by omega, by omega⟩ (by omega) (by omega))) | (go_at_call 78; exact past_of (hN.out _)))); go_big_quiet_on)))
          refine wpQuiet_nil ?_
          intro w5 hw'
          have hB5 := past_below hw'
          clear hw'
          obtain ⟨hC5, hF5⟩ := bcell hB5
          have hS5 := hB5.size
          (try simp at hS5)
          (try have hS5_w0 : w.heap.size < w5.heap.size := by omega)
          (try have hS5_w1 : w.heap.size + 1 < w5.heap.size := by omega)
          (try have hS5_w2 : w.heap.size + 1 + 1 < w5.heap.size := by omega)
          (try have hS5_w3 : w.heap.size + 1 + 1 + 1 < w5.heap.size := by omega)
          (try have hS5_w4 : w.heap.size + 1 + 1 + 1 + 1 < w5.heap.size := by omega)
          (try have hS5_1 : w1.heap.size < w5.heap.size := by omega)
          (try have hS5_2 : w2.heap.size < w5.heap.size := by omega)
          (try have hS5_3 : w3.heap.size < w5.heap.size := by omega)
          (try have hS5_4 : w4.heap.size < w5.heap.size := by omega)
          (try have hS5_1' : w1.heap.size + 1 < w5.heap.size := by omega)
          (try have hS5_2' : w2.heap.size + 1 < w5.heap.size := by omega)
          (try have hS5_3' : w3.heap.size + 1 < w5.heap.size := by omega)
          (try have hS5_4' : w4.heap.size + 1 < w5.heap.size := by omega)
          have hz5 := hB5.size
          have hr4 : ∀ o, w5.cell? ⟨w.heap.size + 1 + 1, o, none⟩ = (#[.int .i64 0, .int .i64 0, .int .i64 0] : Array Value)[o]? := fun o => by rw [bG hB5 (by omega), hr]
          have hrf4 : ∀ o, w5.frozen? ⟨w.heap.size + 1 + 1, o, none⟩ = false := fun o => by rw [fG hB5 (by omega), hrf]
          have hBW4 : Below w.heap.size w w5 := hBW3.out.trans ((hbq.out.mono (by omega)).trans (hB5.mono (by omega)))
          have l4 : w.heap.size + 1 + 1 < w5.heap.size := by omega
          clear hB5 hC5 hF5 hr hrf hx hx'
          by_cases hok : L ≤ 1000 ∧ k * t ≤ 1000
          · have hl : Hid (latB L X (k * t) = true) := by show _ = _; exact decide_eq_true ⟨L1, hok.1, by omega, hok.2, m1, m2⟩
            have hs2 : Hid (mtOk a b d a' b' d' = true) := by show _ = _; rw [hs.out, decide_eq_true hok.1, decide_eq_true hok.2]; rfl
            have hcall : Hid (∀ w0, Calls Try.prog 54 #[.agg #[.int .i64 L, .int .i64 X, .int .i64 (k * t)]] w0 fun en w' => en = .returned (.bool true) ∧ Below w0.heap.size w0 w') := by
              show ∀ w0, _
              intro w0
              have := laGood_any L X (k * t) w0 ⟨by omega, by omega⟩
              rwa [hl.out] at this
            go_wp2_with fail
            refine (hcall.out _).mono ?_
            rintro ex w6 ⟨rfl, hB6⟩
            have hz6 := hB6.size
            simp at hz6
            have hr6 : ∀ o, w6.cell? ⟨w.heap.size + 1 + 1, o, none⟩ = (#[.int .i64 0, .int .i64 0, .int .i64 0] : Array Value)[o]? := fun o => by rw [bG hB6 (by simp; omega), cell_alloc_old _ _ _ _ l4, hr4]
            have hrf6 : ∀ o, w6.frozen? ⟨w.heap.size + 1 + 1, o, none⟩ = false := fun o => by rw [fG hB6 (by simp; omega), frozen_alloc_old _ _ _ _ l4, hrf4]
            have hx6 : ∀ o, w6.cell? ⟨w5.heap.size, o, none⟩ = (#[.int .i64 L, .int .i64 X, .int .i64 (k * t)] : Array Value)[o]? := fun o => by rw [bG hB6 (by simp)]; simp [go_sem]
            have hBW6 : Below w.heap.size w w6 := (hBW4.alloc (by omega) _).trans (hB6.mono (by simp; omega))
            have l7 : w.heap.size + 1 + 1 < w6.heap.size := by omega
            have l8 : w5.heap.size < w6.heap.size := by omega
            clear hB6 hr4 hrf4
            go_wp2
            refine bodyPost_ret (v := .tuple #[.agg #[.int .i64 L, .int .i64 X, .int .i64 (k * t)], .bool true]) (by go_light; (try clear hC14); (try clear hF14); (try clear hB14); (try clear hC13); (try clear hF13); (try clear hB13); (try clear hC12); (try clear hF12); (try clear hB12); (try clear hC11); (try clear hF11); (try clear hB11); (try clear hC10); (try clear hF10); (try clear hB10); (try clear hC9); (try clear hF9); (try clear hB9); (try clear hC8); (try clear hF8); (try clear hB8); (try clear hC7); (try clear hF7); (try clear hB7); (try clear hC6); (try clear hF6); (try clear hB6); (try clear hC5); (try clear hF5); (try clear hB5); (try clear hC4); (try clear hF4); (try clear hB4); (try clear hC3); (try clear hF3); (try clear hB3); (try clear hC2); (try clear hF2); (try clear hB2); (try clear hC1); (try clear hF1); (try clear hB1); simp [results, Try.results44, go_sem, hr6]) rfl ⟨by go_light; rw [hs2.out, hL.out, hX.out, hY.out]; rfl, ?_⟩
            repeat (first | with_reducible exact Below.refl _ _ | with_reducible assumption | ((with_reducible refine blA ?_ ?_); (focus (first | omega | (simp <;> omega)))) | (with_reducible refine blD ?_) | (with_reducible refine blN ?_) | ((with_reducible refine blS ?_ ?_); (focus (first | omega | (simp <;> omega)))) | ((with_reducible refine blT (by assumption) ?_ ?_); (focus (first | omega | (simp <;> omega)))))
          · have hl : Hid (latB L X (k * t) = false) := by show _ = _; exact decide_eq_false fun h => hok ⟨h.2.1, h.2.2.2.1⟩
            have hs2 : Hid (mtOk a b d a' b' d' = false) := by
              show _ = _
              rw [hs.out]
              by_cases h1 : L ≤ 1000
              · rw [decide_eq_false (p := k * t ≤ 1000) (fun h => hok ⟨h1, h⟩), Bool.and_false]
              · rw [decide_eq_false h1, Bool.false_and]
            have hcall : Hid (∀ w0, Calls Try.prog 54 #[.agg #[.int .i64 L, .int .i64 X, .int .i64 (k * t)]] w0 fun en w' => en = .returned (.bool false) ∧ Below w0.heap.size w0 w') := by
              show ∀ w0, _
              intro w0
              have := laGood_any L X (k * t) w0 ⟨by omega, by omega⟩
              rwa [hl.out] at this
            clear hok
            go_wp2_with fail
            refine (hcall.out _).mono ?_
            rintro ex w6 ⟨rfl, hB6⟩
            have hz6 := hB6.size
            simp at hz6
            have hr6 : ∀ o, w6.cell? ⟨w.heap.size + 1 + 1, o, none⟩ = (#[.int .i64 0, .int .i64 0, .int .i64 0] : Array Value)[o]? := fun o => by rw [bG hB6 (by simp; omega), cell_alloc_old _ _ _ _ l4, hr4]
            have hrf6 : ∀ o, w6.frozen? ⟨w.heap.size + 1 + 1, o, none⟩ = false := fun o => by rw [fG hB6 (by simp; omega), frozen_alloc_old _ _ _ _ l4, hrf4]
            have hBW6 : Below w.heap.size w w6 := (hBW4.alloc (by omega) _).trans (hB6.mono (by simp; omega))
            have l7 : w.heap.size + 1 + 1 < w6.heap.size := by omega
            clear hB6 hr4 hrf4
            go_wp2
            refine bodyPost_ret (v := .tuple #[.agg #[.int .i64 0, .int .i64 0, .int .i64 0], .bool false]) (by go_light; (try clear hC14); (try clear hF14); (try clear hB14); (try clear hC13); (try clear hF13); (try clear hB13); (try clear hC12); (try clear hF12); (try clear hB12); (try clear hC11); (try clear hF11); (try clear hB11); (try clear hC10); (try clear hF10); (try clear hB10); (try clear hC9); (try clear hF9); (try clear hB9); (try clear hC8); (try clear hF8); (try clear hB8); (try clear hC7); (try clear hF7); (try clear hB7); (try clear hC6); (try clear hF6); (try clear hB6); (try clear hC5); (try clear hF5); (try clear hB5); (try clear hC4); (try clear hF4); (try clear hB4); (try clear hC3); (try clear hF3); (try clear hB3); (try clear hC2); (try clear hF2); (try clear hB2); (try clear hC1); (try clear hF1); (try clear hB1); simp [results, Try.results44, go_sem, hr6]) rfl ⟨by go_light; rw [hs2.out]; rfl, ?_⟩
            repeat (first | with_reducible exact Below.refl _ _ | with_reducible assumption | ((with_reducible refine blA ?_ ?_); (focus (first | omega | (simp <;> omega)))) | (with_reducible refine blD ?_) | (with_reducible refine blN ?_) | ((with_reducible refine blS ?_ ?_); (focus (first | omega | (simp <;> omega)))) | ((with_reducible refine blT (by assumption) ?_ ?_); (focus (first | omega | (simp <;> omega)))))
    · have c2' : latB a' b' d' = false := by simpa using c2
      have hs : Hid (mtOk a b d a' b' d' = false) := by show _ = _; rw [mtOk, c2', Bool.and_false, Bool.false_and]
      clear c2
      go_enter Try.func44, Try.ntmps44
      go_wp2_with (go_at_call 54; refine (laGood_any _ _ _ _ (by assumption)).mono ?_; rintro e w' ⟨rfl, hB⟩; obtain ⟨hC, hF⟩ := bcell hB; have hS := hB.size; (try simp at hS); (try have hSl := Nat.lt_of_succ_le hS); (try have hS0 : w.heap.size < w'.heap.size := by omega); (try have hS1 : w.heap.size + 1 < w'.heap.size := by omega); (try have hS2 : w.heap.size + 1 + 1 < w'.heap.size := by omega); (try have hS3 : w.heap.size + 1 + 1 + 1 < w'.heap.size := by omega))
      (refine bodyPost_ret (v := .tuple #[.agg #[.int .i64 0, .int .i64 0, .int .i64 0], .bool false]) ?_ rfl ⟨?_, ?_⟩; (focus (go_light; first | (simp [results, Try.results44, go_sem, *]; done) | (simp (disch := first | omega | (simp <;> omega) | (refine isSome_of ?_ ?_; (focus ((repeat (first | ((with_reducible refine (cell_alloc_old _ _ _ _ ?_).trans ?_); (focus (first | omega | (simp <;> omega)))) | ((with_reducible refine (bG (by assumption) ?_).trans ?_); (focus (first | omega | (simp <;> omega)))))); exact rfl)); simp [go_sem]) | fail) [results, Try.results44, go_sem, *]; done))); (focus (go_light; rw [hs.out]; rfl)); repeat (first | with_reducible exact Below.refl _ _ | with_reducible assumption | ((with_reducible refine blA ?_ ?_); (focus (first | omega | (simp <;> omega)))) | (with_reducible refine blD ?_) | (with_reducible refine blN ?_) | ((with_reducible refine blS ?_ ?_); (focus (first | omega | (simp <;> omega)))) | ((with_reducible refine blT (by assumption) ?_ ?_); (focus (first | omega | (simp <;> omega))))))
  · have c1' : latB a b d = false := by simpa using c1
    have hs : Hid (mtOk a b d a' b' d' = false) := by show _ = _; rw [mtOk, c1', Bool.false_and, Bool.false_and]
    clear c1
    go_enter Try.func44, Try.ntmps44
    go_wp2_with (go_at_call 54; refine (laGood_any _ _ _ _ (by assumption)).mono ?_; rintro e w' ⟨rfl, hB⟩; obtain ⟨hC, hF⟩ := bcell hB; have hS := hB.size; (try simp at hS); (try have hSl := Nat.lt_of_succ_le hS); (try have hS0 : w.heap.size < w'.heap.size := by omega); (try have hS1 : w.heap.size + 1 < w'.heap.size := by omega); (try have hS2 : w.heap.size + 1 + 1 < w'.heap.size := by omega); (try have hS3 : w.heap.size + 1 + 1 + 1 < w'.heap.size := by omega))
    (refine bodyPost_ret (v := .tuple #[.agg #[.int .i64 0, .int .i64 0, .int .i64 0], .bool false]) ?_ rfl ⟨?_, ?_⟩; (focus (go_light; first | (simp [results, Try.results44, go_sem, *]; done) | (simp (disch := first | omega | (simp <;> omega) | (refine isSome_of ?_ ?_; (focus ((repeat (first | ((with_reducible refine (cell_alloc_old _ _ _ _ ?_).trans ?_); (focus (first | omega | (simp <;> omega)))) | ((with_reducible refine (bG (by assumption) ?_).trans ?_); (focus (first | omega | (simp <;> omega)))))); exact rfl)); simp [go_sem]) | fail) [results, Try.results44, go_sem, *]; done))); (focus (go_light; rw [hs.out]; rfl)); repeat (first | with_reducible exact Below.refl _ _ | with_reducible assumption | ((with_reducible refine blA ?_ ?_); (focus (first | omega | (simp <;> omega)))) | (with_reducible refine blD ?_) | (with_reducible refine blN ?_) | ((with_reducible refine blS ?_ ?_); (focus (first | omega | (simp <;> omega)))) | ((with_reducible refine blT (by assumption) ?_ ?_); (focus (first | omega | (simp <;> omega))))))
end Go.Proofs.Ytdeboabifcpdbaa
