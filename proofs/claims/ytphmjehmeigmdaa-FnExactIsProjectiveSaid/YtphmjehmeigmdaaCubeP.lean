/-
  Projective cubes: IsProjective, and the walk of its law.
-/
import Derived.Test.YtphmjehmeigmdaaCubeI
import Derived.Test.YtphmjehmeigmdaaEnd
namespace Go.Proofs.Ytphmjehmeigmdaa
open Go.RowKit
attribute [local simp, local go_sem] past_cell past_frozen past_tape
/-- The greatest common divisor of three integers. -/
def gcd3 (a b c : Int) : Int := (Int.gcd a (Int.gcd b c) : Int)
theorem gcd_J {a b : Int} (ha : J64 a) (hb : J64 b) : J64 (Int.gcd a b : Int) := by
  obtain ⟨a1, a2⟩ := ha
  obtain ⟨b1, b2⟩ := hb
  by_cases h : a = 0
  · subst h; rw [Int.gcd_zero_left]; exact ⟨by omega, by omega⟩
  · have := Int.gcd_le_natAbs_left b h
    exact ⟨by omega, by omega⟩
theorem content_any (a b c : Int) (w : World) (ha : J64 a) (hb : J64 b) (hc : J64 c) :
    Calls Try.prog 45 #[.agg #[.int .i64 a, .int .i64 b, .int .i64 c]] w fun en w' => en = .returned (.int .i64 (gcd3 a b c)) ∧ Below w.heap.size w w' := by
  have hg := gcd_J hb hc
  go_enter Try.func45, Try.ntmps45
  go_wp2_with fail
  refine wp_region_past (by kernel_rfl) (by kernel_rfl) ?_
  repeat (first | go_big_quiet_skip | (go_big_quiet_want; go_big_quiet_op; first | go_big_quiet_on | (apply Exists.intro; refine ⟨fun _ => ?_, ?_⟩; (focus ((go_at_call 60; exact past_draws (gcd_any _ _ _ (by assumption) (by assumption))))); go_big_quiet_on)))
  refine wpQuiet_nil ?_
  intro w1 hw'
  have hB1 := past_below hw'
  clear hw'
  obtain ⟨hC1, hF1⟩ := bcell hB1
  have hS1 := hB1.size
  (try simp at hS1)
  (try have hS1_w0 : w.heap.size < w1.heap.size := by omega)
  (try have hS1_w1 : w.heap.size + 1 < w1.heap.size := by omega)
  (try have hS1_w2 : w.heap.size + 1 + 1 < w1.heap.size := by omega)
  (try have hS1_w3 : w.heap.size + 1 + 1 + 1 < w1.heap.size := by omega)
  (try have hS1_w4 : w.heap.size + 1 + 1 + 1 + 1 < w1.heap.size := by omega)
  go_wp2
  go_ret
  refine ⟨rfl, ?_⟩
  repeat (first | with_reducible exact Below.refl _ _ | with_reducible assumption | ((with_reducible refine blA ?_ ?_); (focus (first | omega | (simp <;> omega)))) | (with_reducible refine blD ?_) | (with_reducible refine blN ?_) | ((with_reducible refine blS ?_ ?_); (focus (first | omega | (simp <;> omega)))) | ((with_reducible refine blT (by assumption) ?_ ?_); (focus (first | omega | (simp <;> omega)))))
theorem foContent_any (a b c : Int) (w : World) (ha : J64 a) (hb : J64 b) (hc : J64 c) :
    Calls Try.prog 59 #[.agg #[.int .i64 a, .int .i64 b, .int .i64 c]] w fun en w' => en = .returned (.int .i64 (gcd3 a b c)) ∧ Below w.heap.size w w' := by
  have hg := gcd_J ha hb
  have he : Hid ((Int.gcd (Int.gcd a b : Int) c : Int) = gcd3 a b c) := by show _ = _; unfold gcd3; rw [Int.gcd_assoc]
  go_enter Try.func59, Try.ntmps59
  go_wp2_with fail
  refine wp_region_past (by kernel_rfl) (by kernel_rfl) ?_
  repeat (first | go_big_quiet_skip | (go_big_quiet_want; go_big_quiet_op; first | go_big_quiet_on | (apply Exists.intro; refine ⟨fun _ => ?_, ?_⟩; (focus ((go_at_call 65; exact past_draws (nuGcd_any _ _ _ (by assumption) (by assumption))))); go_big_quiet_on)))
  refine wpQuiet_nil ?_
  intro w1 hw'
  have hB1 := past_below hw'
  clear hw'
  obtain ⟨hC1, hF1⟩ := bcell hB1
  have hS1 := hB1.size
  (try simp at hS1)
  (try have hS1_w0 : w.heap.size < w1.heap.size := by omega)
  (try have hS1_w1 : w.heap.size + 1 < w1.heap.size := by omega)
  (try have hS1_w2 : w.heap.size + 1 + 1 < w1.heap.size := by omega)
  (try have hS1_w3 : w.heap.size + 1 + 1 + 1 < w1.heap.size := by omega)
  (try have hS1_w4 : w.heap.size + 1 + 1 + 1 + 1 < w1.heap.size := by omega)
  go_wp2
  go_ret
  refine ⟨ret_int he.out, ?_⟩
  repeat (first | with_reducible exact Below.refl _ _ | with_reducible assumption | ((with_reducible refine blA ?_ ?_); (focus (first | omega | (simp <;> omega)))) | (with_reducible refine blD ?_) | (with_reducible refine blN ?_) | ((with_reducible refine blS ?_ ?_); (focus (first | omega | (simp <;> omega)))) | ((with_reducible refine blT (by assumption) ?_ ?_); (focus (first | omega | (simp <;> omega)))))
theorem B5.sub {a b c d : Int} (ha : B5 a) (hb : B5 b) (hc : B5 c) (hd : B5 d) : J64 (cfA a b c d) := by
  obtain ⟨p1, p2⟩ := hb.mul hc
  obtain ⟨q1, q2⟩ := ha.mul hd
  unfold cfA
  exact ⟨by omega, by omega⟩
theorem B5.subC {a b c d : Int} (ha : B5 a) (hb : B5 b) (hc : B5 c) (hd : B5 d) : J64 (cfC a b c d) := by
  obtain ⟨p1, p2⟩ := hb.mul hc
  obtain ⟨q1, q2⟩ := ha.mul hd
  unfold cfC
  exact ⟨by omega, by omega⟩
theorem B5.mid {x0 x1 x2 x3 x4 x5 x6 x7 : Int} (h0 : B5 x0) (h1 : B5 x1) (h2 : B5 x2) (h3 : B5 x3) (h4 : B5 x4) (h5 : B5 x5) (h6 : B5 x6) (h7 : B5 x7) : J64 (cfB x0 x1 x2 x3 x4 x5 x6 x7) := by
  obtain ⟨p1, p2⟩ := h0.mul h7
  obtain ⟨q1, q2⟩ := h3.mul h4
  obtain ⟨r1, r2⟩ := h1.mul h6
  obtain ⟨s1, s2⟩ := h2.mul h5
  unfold cfB
  exact ⟨by omega, by omega⟩
def cg1 (x0 x1 x2 x3 x4 x5 x6 x7 : Int) : Int := gcd3 (cfA x0 x1 x2 x3) (cfB x0 x1 x2 x3 x4 x5 x6 x7) (cfC x4 x5 x6 x7)
def cg2 (x0 x1 x2 x3 x4 x5 x6 x7 : Int) : Int := gcd3 (cfA x0 x2 x4 x6) (cfB x0 x2 x4 x6 x1 x3 x5 x7) (cfC x1 x3 x5 x7)
def cg3 (x0 x1 x2 x3 x4 x5 x6 x7 : Int) : Int := gcd3 (cfA x0 x4 x1 x5) (cfB x0 x4 x1 x5 x2 x6 x3 x7) (cfC x2 x6 x3 x7)
def pjB (x0 x1 x2 x3 x4 x5 x6 x7 : Int) : Bool := cubeB x0 x1 x2 x3 x4 x5 x6 x7 && (decide (cg1 x0 x1 x2 x3 x4 x5 x6 x7 = 1) && decide (cg2 x0 x1 x2 x3 x4 x5 x6 x7 = 1) && decide (cg3 x0 x1 x2 x3 x4 x5 x6 x7 = 1))
theorem ic1 (x0 x1 x2 x3 x4 x5 x6 x7 : Int) (w : World) (h0 : B5 x0) (h1 : B5 x1) (h2 : B5 x2) (h3 : B5 x3) (h4 : B5 x4) (h5 : B5 x5) (h6 : B5 x6) (h7 : B5 x7) :
    Calls Try.prog 45 #[.agg #[.int .i64 (cfA x0 x1 x2 x3), .int .i64 (cfB x0 x1 x2 x3 x4 x5 x6 x7), .int .i64 (cfC x4 x5 x6 x7)]] w fun en w' => en = .returned (.int .i64 (cg1 x0 x1 x2 x3 x4 x5 x6 x7)) ∧ Below w.heap.size w w' := content_any _ _ _ w (B5.sub h0 h1 h2 h3) (B5.mid h0 h1 h2 h3 h4 h5 h6 h7) (B5.subC h4 h5 h6 h7)
theorem sc1 (x0 x1 x2 x3 x4 x5 x6 x7 : Int) (w : World) (h0 : B5 x0) (h1 : B5 x1) (h2 : B5 x2) (h3 : B5 x3) (h4 : B5 x4) (h5 : B5 x5) (h6 : B5 x6) (h7 : B5 x7) :
    Calls Try.prog 59 #[.agg #[.int .i64 (cfA x0 x1 x2 x3), .int .i64 (cfB x0 x1 x2 x3 x4 x5 x6 x7), .int .i64 (cfC x4 x5 x6 x7)]] w fun en w' => en = .returned (.int .i64 (cg1 x0 x1 x2 x3 x4 x5 x6 x7)) ∧ Below w.heap.size w w' := foContent_any _ _ _ w (B5.sub h0 h1 h2 h3) (B5.mid h0 h1 h2 h3 h4 h5 h6 h7) (B5.subC h4 h5 h6 h7)
theorem ic2 (x0 x1 x2 x3 x4 x5 x6 x7 : Int) (w : World) (h0 : B5 x0) (h1 : B5 x1) (h2 : B5 x2) (h3 : B5 x3) (h4 : B5 x4) (h5 : B5 x5) (h6 : B5 x6) (h7 : B5 x7) :
    Calls Try.prog 45 #[.agg #[.int .i64 (cfA x0 x2 x4 x6), .int .i64 (cfB x0 x2 x4 x6 x1 x3 x5 x7), .int .i64 (cfC x1 x3 x5 x7)]] w fun en w' => en = .returned (.int .i64 (cg2 x0 x1 x2 x3 x4 x5 x6 x7)) ∧ Below w.heap.size w w' := content_any _ _ _ w (B5.sub h0 h2 h4 h6) (B5.mid h0 h2 h4 h6 h1 h3 h5 h7) (B5.subC h1 h3 h5 h7)
theorem sc2 (x0 x1 x2 x3 x4 x5 x6 x7 : Int) (w : World) (h0 : B5 x0) (h1 : B5 x1) (h2 : B5 x2) (h3 : B5 x3) (h4 : B5 x4) (h5 : B5 x5) (h6 : B5 x6) (h7 : B5 x7) :
    Calls Try.prog 59 #[.agg #[.int .i64 (cfA x0 x2 x4 x6), .int .i64 (cfB x0 x2 x4 x6 x1 x3 x5 x7), .int .i64 (cfC x1 x3 x5 x7)]] w fun en w' => en = .returned (.int .i64 (cg2 x0 x1 x2 x3 x4 x5 x6 x7)) ∧ Below w.heap.size w w' := foContent_any _ _ _ w (B5.sub h0 h2 h4 h6) (B5.mid h0 h2 h4 h6 h1 h3 h5 h7) (B5.subC h1 h3 h5 h7)
theorem ic3 (x0 x1 x2 x3 x4 x5 x6 x7 : Int) (w : World) (h0 : B5 x0) (h1 : B5 x1) (h2 : B5 x2) (h3 : B5 x3) (h4 : B5 x4) (h5 : B5 x5) (h6 : B5 x6) (h7 : B5 x7) :
    Calls Try.prog 45 #[.agg #[.int .i64 (cfA x0 x4 x1 x5), .int .i64 (cfB x0 x4 x1 x5 x2 x6 x3 x7), .int .i64 (cfC x2 x6 x3 x7)]] w fun en w' => en = .returned (.int .i64 (cg3 x0 x1 x2 x3 x4 x5 x6 x7)) ∧ Below w.heap.size w w' := content_any _ _ _ w (B5.sub h0 h4 h1 h5) (B5.mid h0 h4 h1 h5 h2 h6 h3 h7) (B5.subC h2 h6 h3 h7)
theorem sc3 (x0 x1 x2 x3 x4 x5 x6 x7 : Int) (w : World) (h0 : B5 x0) (h1 : B5 x1) (h2 : B5 x2) (h3 : B5 x3) (h4 : B5 x4) (h5 : B5 x5) (h6 : B5 x6) (h7 : B5 x7) :
    Calls Try.prog 59 #[.agg #[.int .i64 (cfA x0 x4 x1 x5), .int .i64 (cfB x0 x4 x1 x5 x2 x6 x3 x7), .int .i64 (cfC x2 x6 x3 x7)]] w fun en w' => en = .returned (.int .i64 (cg3 x0 x1 x2 x3 x4 x5 x6 x7)) ∧ Below w.heap.size w w' := foContent_any _ _ _ w (B5.sub h0 h4 h1 h5) (B5.mid h0 h4 h1 h5 h2 h6 h3 h7) (B5.subC h2 h6 h3 h7)
theorem implCFT (x0 x1 x2 x3 x4 x5 x6 x7 : Int) (w : World) (c : cubeB x0 x1 x2 x3 x4 x5 x6 x7 = true) :
    Calls Try.prog 24 #[.agg #[.int .i64 x0, .int .i64 x1, .int .i64 x2, .int .i64 x3, .int .i64 x4, .int .i64 x5, .int .i64 x6, .int .i64 x7]] w fun en w' => en = .returned (.tuple #[.agg #[.int .i64 (cfA x0 x1 x2 x3), .int .i64 (cfB x0 x1 x2 x3 x4 x5 x6 x7), .int .i64 (cfC x4 x5 x6 x7)], .agg #[.int .i64 (cfA x0 x2 x4 x6), .int .i64 (cfB x0 x2 x4 x6 x1 x3 x5 x7), .int .i64 (cfC x1 x3 x5 x7)], .agg #[.int .i64 (cfA x0 x4 x1 x5), .int .i64 (cfB x0 x4 x1 x5 x2 x6 x3 x7), .int .i64 (cfC x2 x6 x3 x7)], .bool true]) ∧ Below w.heap.size w w' :=
  (implCubeForms_any x0 x1 x2 x3 x4 x5 x6 x7 w).mono fun _ _ ⟨he, hb⟩ => ⟨by rw [he, c]; rfl, hb⟩
theorem implCFF (x0 x1 x2 x3 x4 x5 x6 x7 : Int) (w : World) (c : cubeB x0 x1 x2 x3 x4 x5 x6 x7 = false) :
    Calls Try.prog 24 #[.agg #[.int .i64 x0, .int .i64 x1, .int .i64 x2, .int .i64 x3, .int .i64 x4, .int .i64 x5, .int .i64 x6, .int .i64 x7]] w fun en w' => en = .returned (.tuple #[.agg #[.int .i64 0, .int .i64 0, .int .i64 0], .agg #[.int .i64 0, .int .i64 0, .int .i64 0], .agg #[.int .i64 0, .int .i64 0, .int .i64 0], .bool false]) ∧ Below w.heap.size w w' :=
  (implCubeForms_any x0 x1 x2 x3 x4 x5 x6 x7 w).mono fun _ _ ⟨he, hb⟩ => ⟨by rw [he, c]; rfl, hb⟩
set_option maxRecDepth 100000 in
set_option maxHeartbeats 2000000 in
theorem implIsProjective_any (x0 x1 x2 x3 x4 x5 x6 x7 : Int) (w : World) :
    Calls Try.prog 27 #[.agg #[.int .i64 x0, .int .i64 x1, .int .i64 x2, .int .i64 x3, .int .i64 x4, .int .i64 x5, .int .i64 x6, .int .i64 x7]] w fun en w' => en = .returned (.tuple #[.bool (pjB x0 x1 x2 x3 x4 x5 x6 x7), .bool (cubeB x0 x1 x2 x3 x4 x5 x6 x7)]) ∧ Below w.heap.size w w' := by
  by_cases c1 : cubeB x0 x1 x2 x3 x4 x5 x6 x7 = true
  · have h0 : B5 x0 := by have := cubeB_bd c1; unfold B5; omega
    have h1 : B5 x1 := by have := cubeB_bd c1; unfold B5; omega
    have h2 : B5 x2 := by have := cubeB_bd c1; unfold B5; omega
    have h3 : B5 x3 := by have := cubeB_bd c1; unfold B5; omega
    have h4 : B5 x4 := by have := cubeB_bd c1; unfold B5; omega
    have h5 : B5 x5 := by have := cubeB_bd c1; unfold B5; omega
    have h6 : B5 x6 := by have := cubeB_bd c1; unfold B5; omega
    have h7 : B5 x7 := by have := cubeB_bd c1; unfold B5; omega
    go_enter Try.func27, Try.ntmps27
    go_wp2_with fail
    refine (implCFT _ _ _ _ _ _ _ _ _ c1).mono ?_
    rintro e1 w1 ⟨rfl, hB1⟩
    obtain ⟨hC1, hF1⟩ := bcell hB1
    have hS1 := hB1.size
    (try simp at hS1)
    (try have hS1_w0 : w.heap.size < w1.heap.size := by omega)
    (try have hS1_w1 : w.heap.size + 1 < w1.heap.size := by omega)
    (try have hS1_w2 : w.heap.size + 1 + 1 < w1.heap.size := by omega)
    (try have hS1_w3 : w.heap.size + 1 + 1 + 1 < w1.heap.size := by omega)
    (try have hS1_w4 : w.heap.size + 1 + 1 + 1 + 1 < w1.heap.size := by omega)
    (try have hL1_w0 : w.heap.size ≤ w1.heap.size := by omega)
    (try have hL1_w1 : w.heap.size + 1 ≤ w1.heap.size := by omega)
    (try have hL1_w2 : w.heap.size + 1 + 1 ≤ w1.heap.size := by omega)
    (try have hL1_w3 : w.heap.size + 1 + 1 + 1 ≤ w1.heap.size := by omega)
    (try have hL1_w : w.heap.size ≤ w1.heap.size + 1 := by omega)
    (try have hM1_1 : w.heap.size < w1.heap.size + 1 := by omega)
    (try have hM1_2 : w.heap.size < w1.heap.size + 1 + 1 := by omega)
    (try have hM1_3 : w.heap.size < w1.heap.size + 1 + 1 + 1 := by omega)
    go_wp2_with (first | (with_reducible (go_at_call 45; refine (ic1 _ _ _ _ _ _ _ _ _ h0 h1 h2 h3 h4 h5 h6 h7).mono ?_; rintro e w' ⟨rfl, hB⟩; obtain ⟨hC, hF⟩ := bcell hB; have hS := hB.size; (try simp at hS); (try have hSl := Nat.lt_of_succ_le hS); (try have hS0 : w.heap.size < w'.heap.size := by omega); (try have hS1 : w.heap.size + 1 < w'.heap.size := by omega); (try have hS2 : w.heap.size + 1 + 1 < w'.heap.size := by omega); (try have hS3 : w.heap.size + 1 + 1 + 1 < w'.heap.size := by omega))) | (with_reducible (go_at_call 45; refine (ic2 _ _ _ _ _ _ _ _ _ h0 h1 h2 h3 h4 h5 h6 h7).mono ?_; rintro e w' ⟨rfl, hB⟩; obtain ⟨hC, hF⟩ := bcell hB; have hS := hB.size; (try simp at hS); (try have hSl := Nat.lt_of_succ_le hS); (try have hS0 : w.heap.size < w'.heap.size := by omega); (try have hS1 : w.heap.size + 1 < w'.heap.size := by omega); (try have hS2 : w.heap.size + 1 + 1 < w'.heap.size := by omega); (try have hS3 : w.heap.size + 1 + 1 + 1 < w'.heap.size := by omega))) | (with_reducible (go_at_call 45; refine (ic3 _ _ _ _ _ _ _ _ _ h0 h1 h2 h3 h4 h5 h6 h7).mono ?_; rintro e w' ⟨rfl, hB⟩; obtain ⟨hC, hF⟩ := bcell hB; have hS := hB.size; (try simp at hS); (try have hSl := Nat.lt_of_succ_le hS); (try have hS0 : w.heap.size < w'.heap.size := by omega); (try have hS1 : w.heap.size + 1 < w'.heap.size := by omega); (try have hS2 : w.heap.size + 1 + 1 < w'.heap.size := by omega); (try have hS3 : w.heap.size + 1 + 1 + 1 < w'.heap.size := by omega))))
    all_goals
      go_ret2
      refine ⟨ret_bb ?_ ?_, ?_⟩
      · go_light; (first | (simp [pjB, *]; done) | (rw [Bool.eq_iff_iff]; simp [pjB, *]; done))
      · go_light; rw [c1]
      · repeat (first | with_reducible exact Below.refl _ _ | with_reducible assumption | ((with_reducible refine blA ?_ ?_); (focus (first | omega | (simp <;> omega)))) | (with_reducible refine blD ?_) | (with_reducible refine blN ?_) | ((with_reducible refine blS ?_ ?_); (focus (first | omega | (simp <;> omega)))) | ((with_reducible refine blT (by assumption) ?_ ?_); (focus (first | omega | (simp <;> omega)))))
  · have c1' : cubeB x0 x1 x2 x3 x4 x5 x6 x7 = false := by simpa using c1
    have hs : Hid (pjB x0 x1 x2 x3 x4 x5 x6 x7 = false) := by show _ = _; simp [pjB, c1']
    clear c1
    go_enter Try.func27, Try.ntmps27
    go_wp2_with (go_at_call 24; refine (implCFF _ _ _ _ _ _ _ _ _ c1').mono ?_; rintro e w' ⟨rfl, hB⟩; obtain ⟨hC, hF⟩ := bcell hB; have hS := hB.size; (try simp at hS); (try have hSl := Nat.lt_of_succ_le hS); (try have hS0 : w.heap.size < w'.heap.size := by omega); (try have hS1 : w.heap.size + 1 < w'.heap.size := by omega); (try have hS2 : w.heap.size + 1 + 1 < w'.heap.size := by omega); (try have hS3 : w.heap.size + 1 + 1 + 1 < w'.heap.size := by omega))
    go_ret2
    refine ⟨ret_bb (by go_light; rw [hs.out]) (by go_light; rw [c1']), ?_⟩
    repeat (first | with_reducible exact Below.refl _ _ | with_reducible assumption | ((with_reducible refine blA ?_ ?_); (focus (first | omega | (simp <;> omega)))) | (with_reducible refine blD ?_) | (with_reducible refine blN ?_) | ((with_reducible refine blS ?_ ?_); (focus (first | omega | (simp <;> omega)))) | ((with_reducible refine blT (by assumption) ?_ ?_); (focus (first | omega | (simp <;> omega)))))
theorem specCFT (x0 x1 x2 x3 x4 x5 x6 x7 : Int) (w : World) (h0 : B5 x0) (h1 : B5 x1) (h2 : B5 x2) (h3 : B5 x3) (h4 : B5 x4) (h5 : B5 x5) (h6 : B5 x6) (h7 : B5 x7) :
    Calls Try.prog 43 #[.agg #[.int .i64 x0, .int .i64 x1, .int .i64 x2, .int .i64 x3, .int .i64 x4, .int .i64 x5, .int .i64 x6, .int .i64 x7]] w fun e w' => ∃ w1, Below w.heap.size w w1 ∧ e = .returned (.slice (some ⟨w1.heap.size, 0, none⟩) 3 3) ∧ w1.alloc (.cells #[.int .i64 (cfA x0 x1 x2 x3), .int .i64 (cfB x0 x1 x2 x3 x4 x5 x6 x7), .int .i64 (cfC x4 x5 x6 x7), .int .i64 (cfA x0 x2 x4 x6), .int .i64 (cfB x0 x2 x4 x6 x1 x3 x5 x7), .int .i64 (cfC x1 x3 x5 x7), .int .i64 (cfA x0 x4 x1 x5), .int .i64 (cfB x0 x4 x1 x5 x2 x6 x3 x7), .int .i64 (cfC x2 x6 x3 x7)] 36) = w' := cuForms_any x0 x1 x2 x3 x4 x5 x6 x7 w h0 h1 h2 h3 h4 h5 h6 h7
set_option maxRecDepth 100000 in
set_option maxHeartbeats 4000000 in
theorem cuProjective_any (x0 x1 x2 x3 x4 x5 x6 x7 : Int) (w : World) (h0 : B5 x0) (h1 : B5 x1) (h2 : B5 x2) (h3 : B5 x3) (h4 : B5 x4) (h5 : B5 x5) (h6 : B5 x6) (h7 : B5 x7) :
    Calls Try.prog 44 #[.agg #[.int .i64 x0, .int .i64 x1, .int .i64 x2, .int .i64 x3, .int .i64 x4, .int .i64 x5, .int .i64 x6, .int .i64 x7]] w fun en w' => en = .returned (.bool (decide (cg1 x0 x1 x2 x3 x4 x5 x6 x7 = 1) && decide (cg2 x0 x1 x2 x3 x4 x5 x6 x7 = 1) && decide (cg3 x0 x1 x2 x3 x4 x5 x6 x7 = 1))) ∧ Below w.heap.size w w' := by
  go_enter Try.func44, Try.ntmps44
  go_wp2_with fail
  refine (specCFT x0 x1 x2 x3 x4 x5 x6 x7 _ h0 h1 h2 h3 h4 h5 h6 h7).mono ?_
  rintro e1 w' ⟨w1, hB1, rfl, rfl⟩
  have hS1 := hB1.size
  simp at hS1
  go_wp2
  go_loopw [8] (fun i wr => ∃ k : Nat, k ≤ 3 ∧ i = .int .i64 k ∧ Hid ((1 ≤ k → cg1 x0 x1 x2 x3 x4 x5 x6 x7 = 1) ∧ (2 ≤ k → cg2 x0 x1 x2 x3 x4 x5 x6 x7 = 1) ∧ (3 ≤ k → cg3 x0 x1 x2 x3 x4 x5 x6 x7 = 1)) ∧ Hid (Below (w1.heap.size + 1) (w1.alloc (.cells #[.int .i64 (cfA x0 x1 x2 x3), .int .i64 (cfB x0 x1 x2 x3 x4 x5 x6 x7), .int .i64 (cfC x4 x5 x6 x7), .int .i64 (cfA x0 x2 x4 x6), .int .i64 (cfB x0 x2 x4 x6 x1 x3 x5 x7), .int .i64 (cfC x1 x3 x5 x7), .int .i64 (cfA x0 x4 x1 x5), .int .i64 (cfB x0 x4 x1 x5 x2 x6 x3 x7), .int .i64 (cfC x2 x6 x3 x7)] 36)) wr)) (fun i _ => 3 - (intOf i).toNat)
  case atStart => exact ⟨0, by omega, rfl, ⟨by omega, by omega, by omega⟩, Below.refl _ _⟩
  case round =>
    obtain ⟨k, hk, rfl, G, HBr⟩ := hrel
    have hSr := HBr.out.size
    simp at hSr
    have hcr : ∀ o, wr.cell? ⟨w1.heap.size, o, none⟩ = (#[.int .i64 (cfA x0 x1 x2 x3), .int .i64 (cfB x0 x1 x2 x3 x4 x5 x6 x7), .int .i64 (cfC x4 x5 x6 x7), .int .i64 (cfA x0 x2 x4 x6), .int .i64 (cfB x0 x2 x4 x6 x1 x3 x5 x7), .int .i64 (cfC x1 x3 x5 x7), .int .i64 (cfA x0 x4 x1 x5), .int .i64 (cfB x0 x4 x1 x5 x2 x6 x3 x7), .int .i64 (cfC x2 x6 x3 x7)] : Array Value)[o]? := fun o => by rw [bG HBr.out (by omega)]; simp [go_sem]
    by_cases k0 : k = 0
    · subst k0
      by_cases hc : cg1 x0 x1 x2 x3 x4 x5 x6 x7 = 1
      all_goals
        go_wp2_with (with_reducible (go_at_call 59; refine (sc1 _ _ _ _ _ _ _ _ _ h0 h1 h2 h3 h4 h5 h6 h7).mono ?_; rintro e w' ⟨rfl, hB⟩; obtain ⟨hC, hF⟩ := bcell hB; have hS := hB.size; (try simp at hS); (try have hSl := Nat.lt_of_succ_le hS); (try have hS0 : w.heap.size < w'.heap.size := by omega); (try have hS1 : w.heap.size + 1 < w'.heap.size := by omega); (try have hS2 : w.heap.size + 1 + 1 < w'.heap.size := by omega); (try have hS3 : w.heap.size + 1 + 1 + 1 < w'.heap.size := by omega)))
        first
          | (go_roundw
             case rel =>
               go_light
               obtain ⟨g1, g2, g3⟩ := G.out
               refine ⟨1, by omega, rfl, ⟨by omega, by omega, by omega⟩, ?_⟩
               have hBr := HBr.out
               show Below _ _ _
               repeat (first | with_reducible exact Below.refl _ _ | with_reducible assumption | ((with_reducible refine blA ?_ ?_); (focus (first | omega | (simp <;> omega)))) | (with_reducible refine blD ?_) | (with_reducible refine blN ?_) | ((with_reducible refine blS ?_ ?_); (focus (first | omega | (simp <;> omega)))) | ((with_reducible refine blT (by assumption) ?_ ?_); (focus (first | omega | (simp <;> omega)))))
             case measure => simp [intOf])
          | (go_ret
             refine ⟨ret_bool ?_, ?_⟩
             · go_light
               simp [hc]
             · have hBr := HBr.out
               repeat (first | with_reducible exact Below.refl _ _ | with_reducible assumption | ((with_reducible refine blA ?_ ?_); (focus (first | omega | (simp <;> omega)))) | (with_reducible refine blD ?_) | (with_reducible refine blN ?_) | ((with_reducible refine blS ?_ ?_); (focus (first | omega | (simp <;> omega)))) | ((with_reducible refine blT (by assumption) ?_ ?_); (focus (first | omega | (simp <;> omega))))))
    by_cases k1 : k = 1
    · subst k1
      by_cases hc : cg2 x0 x1 x2 x3 x4 x5 x6 x7 = 1
      all_goals
        go_wp2_with (with_reducible (go_at_call 59; refine (sc2 _ _ _ _ _ _ _ _ _ h0 h1 h2 h3 h4 h5 h6 h7).mono ?_; rintro e w' ⟨rfl, hB⟩; obtain ⟨hC, hF⟩ := bcell hB; have hS := hB.size; (try simp at hS); (try have hSl := Nat.lt_of_succ_le hS); (try have hS0 : w.heap.size < w'.heap.size := by omega); (try have hS1 : w.heap.size + 1 < w'.heap.size := by omega); (try have hS2 : w.heap.size + 1 + 1 < w'.heap.size := by omega); (try have hS3 : w.heap.size + 1 + 1 + 1 < w'.heap.size := by omega)))
        first
          | (go_roundw
             case rel =>
               go_light
               obtain ⟨g1, g2, g3⟩ := G.out
               refine ⟨2, by omega, rfl, ⟨by omega, by omega, by omega⟩, ?_⟩
               have hBr := HBr.out
               show Below _ _ _
               repeat (first | with_reducible exact Below.refl _ _ | with_reducible assumption | ((with_reducible refine blA ?_ ?_); (focus (first | omega | (simp <;> omega)))) | (with_reducible refine blD ?_) | (with_reducible refine blN ?_) | ((with_reducible refine blS ?_ ?_); (focus (first | omega | (simp <;> omega)))) | ((with_reducible refine blT (by assumption) ?_ ?_); (focus (first | omega | (simp <;> omega)))))
             case measure => simp [intOf])
          | (go_ret
             refine ⟨ret_bool ?_, ?_⟩
             · go_light
               simp [hc]
             · have hBr := HBr.out
               repeat (first | with_reducible exact Below.refl _ _ | with_reducible assumption | ((with_reducible refine blA ?_ ?_); (focus (first | omega | (simp <;> omega)))) | (with_reducible refine blD ?_) | (with_reducible refine blN ?_) | ((with_reducible refine blS ?_ ?_); (focus (first | omega | (simp <;> omega)))) | ((with_reducible refine blT (by assumption) ?_ ?_); (focus (first | omega | (simp <;> omega))))))
    by_cases k2 : k = 2
    · subst k2
      by_cases hc : cg3 x0 x1 x2 x3 x4 x5 x6 x7 = 1
      all_goals
        go_wp2_with (with_reducible (go_at_call 59; refine (sc3 _ _ _ _ _ _ _ _ _ h0 h1 h2 h3 h4 h5 h6 h7).mono ?_; rintro e w' ⟨rfl, hB⟩; obtain ⟨hC, hF⟩ := bcell hB; have hS := hB.size; (try simp at hS); (try have hSl := Nat.lt_of_succ_le hS); (try have hS0 : w.heap.size < w'.heap.size := by omega); (try have hS1 : w.heap.size + 1 < w'.heap.size := by omega); (try have hS2 : w.heap.size + 1 + 1 < w'.heap.size := by omega); (try have hS3 : w.heap.size + 1 + 1 + 1 < w'.heap.size := by omega)))
        first
          | (go_roundw
             case rel =>
               go_light
               obtain ⟨g1, g2, g3⟩ := G.out
               refine ⟨3, by omega, rfl, ⟨by omega, by omega, by omega⟩, ?_⟩
               have hBr := HBr.out
               show Below _ _ _
               repeat (first | with_reducible exact Below.refl _ _ | with_reducible assumption | ((with_reducible refine blA ?_ ?_); (focus (first | omega | (simp <;> omega)))) | (with_reducible refine blD ?_) | (with_reducible refine blN ?_) | ((with_reducible refine blS ?_ ?_); (focus (first | omega | (simp <;> omega)))) | ((with_reducible refine blT (by assumption) ?_ ?_); (focus (first | omega | (simp <;> omega)))))
             case measure => simp [intOf])
          | (go_ret
             refine ⟨ret_bool ?_, ?_⟩
             · go_light
               simp [hc]
             · have hBr := HBr.out
               repeat (first | with_reducible exact Below.refl _ _ | with_reducible assumption | ((with_reducible refine blA ?_ ?_); (focus (first | omega | (simp <;> omega)))) | (with_reducible refine blD ?_) | (with_reducible refine blN ?_) | ((with_reducible refine blS ?_ ?_); (focus (first | omega | (simp <;> omega)))) | ((with_reducible refine blT (by assumption) ?_ ?_); (focus (first | omega | (simp <;> omega))))))
    have hk : k = 3 := by omega
    subst hk
    go_wp2
    go_ret
    refine ⟨ret_bool ?_, ?_⟩
    · go_light
      obtain ⟨g1, g2, g3⟩ := G.out
      simp [g1, g2, g3]
    · have hBr := HBr.out
      repeat (first | with_reducible exact Below.refl _ _ | with_reducible assumption | ((with_reducible refine blA ?_ ?_); (focus (first | omega | (simp <;> omega)))) | (with_reducible refine blD ?_) | (with_reducible refine blN ?_) | ((with_reducible refine blS ?_ ?_); (focus (first | omega | (simp <;> omega)))) | ((with_reducible refine blT (by assumption) ?_ ?_); (focus (first | omega | (simp <;> omega)))))
set_option maxHeartbeats 1000000 in
theorem specIsProjective_any (x0 x1 x2 x3 x4 x5 x6 x7 : Int) (w : World) :
    Calls Try.prog 26 #[.agg #[.int .i64 x0, .int .i64 x1, .int .i64 x2, .int .i64 x3, .int .i64 x4, .int .i64 x5, .int .i64 x6, .int .i64 x7]] w fun en w' => en = .returned (.tuple #[.bool (pjB x0 x1 x2 x3 x4 x5 x6 x7), .bool (cubeB x0 x1 x2 x3 x4 x5 x6 x7)]) ∧ Below w.heap.size w w' := by
  by_cases c1 : cubeB x0 x1 x2 x3 x4 x5 x6 x7 = true
  · have h0 : B5 x0 := by have := cubeB_bd c1; unfold B5; omega
    have h1 : B5 x1 := by have := cubeB_bd c1; unfold B5; omega
    have h2 : B5 x2 := by have := cubeB_bd c1; unfold B5; omega
    have h3 : B5 x3 := by have := cubeB_bd c1; unfold B5; omega
    have h4 : B5 x4 := by have := cubeB_bd c1; unfold B5; omega
    have h5 : B5 x5 := by have := cubeB_bd c1; unfold B5; omega
    have h6 : B5 x6 := by have := cubeB_bd c1; unfold B5; omega
    have h7 : B5 x7 := by have := cubeB_bd c1; unfold B5; omega
    have hs : Hid (pjB x0 x1 x2 x3 x4 x5 x6 x7 = (decide (cg1 x0 x1 x2 x3 x4 x5 x6 x7 = 1) && decide (cg2 x0 x1 x2 x3 x4 x5 x6 x7 = 1) && decide (cg3 x0 x1 x2 x3 x4 x5 x6 x7 = 1))) := by show _ = _; rw [pjB, c1]; rfl
    go_enter Try.func26, Try.ntmps26
    go_wp2_with (first | (go_at_call 31; refine (cuIn_any _ _ _ _ _ _ _ _ _).mono ?_; rintro e w' ⟨rfl, hB⟩; obtain ⟨hC, hF⟩ := bcell hB; have hS := hB.size; (try simp at hS); (try have hSl := Nat.lt_of_succ_le hS); (try have hS0 : w.heap.size < w'.heap.size := by omega); (try have hS1 : w.heap.size + 1 < w'.heap.size := by omega); (try have hS2 : w.heap.size + 1 + 1 < w'.heap.size := by omega); (try have hS3 : w.heap.size + 1 + 1 + 1 < w'.heap.size := by omega)) | (go_at_call 44; refine (cuProjective_any _ _ _ _ _ _ _ _ _ h0 h1 h2 h3 h4 h5 h6 h7).mono ?_; rintro e w' ⟨rfl, hB⟩; obtain ⟨hC, hF⟩ := bcell hB; have hS := hB.size; (try simp at hS); (try have hSl := Nat.lt_of_succ_le hS); (try have hS0 : w.heap.size < w'.heap.size := by omega); (try have hS1 : w.heap.size + 1 < w'.heap.size := by omega); (try have hS2 : w.heap.size + 1 + 1 < w'.heap.size := by omega); (try have hS3 : w.heap.size + 1 + 1 + 1 < w'.heap.size := by omega)))
    go_ret2
    refine ⟨ret_bb (by go_light; rw [hs.out]) (by go_light; rw [c1]), ?_⟩
    repeat (first | with_reducible exact Below.refl _ _ | with_reducible assumption | ((with_reducible refine blA ?_ ?_); (focus (first | omega | (simp <;> omega)))) | (with_reducible refine blD ?_) | (with_reducible refine blN ?_) | ((with_reducible refine blS ?_ ?_); (focus (first | omega | (simp <;> omega)))) | ((with_reducible refine blT (by assumption) ?_ ?_); (focus (first | omega | (simp <;> omega)))))
  · have c1' : cubeB x0 x1 x2 x3 x4 x5 x6 x7 = false := by simpa using c1
    have hs : Hid (pjB x0 x1 x2 x3 x4 x5 x6 x7 = false) := by show _ = _; simp [pjB, c1']
    clear c1
    go_enter Try.func26, Try.ntmps26
    go_wp2_with (go_at_call 31; refine (cuIn_any _ _ _ _ _ _ _ _ _).mono ?_; rintro e w' ⟨rfl, hB⟩; obtain ⟨hC, hF⟩ := bcell hB; have hS := hB.size; (try simp at hS); (try have hSl := Nat.lt_of_succ_le hS); (try have hS0 : w.heap.size < w'.heap.size := by omega); (try have hS1 : w.heap.size + 1 < w'.heap.size := by omega); (try have hS2 : w.heap.size + 1 + 1 < w'.heap.size := by omega); (try have hS3 : w.heap.size + 1 + 1 + 1 < w'.heap.size := by omega))
    go_ret2
    refine ⟨ret_bb (by go_light; rw [hs.out]) (by go_light; rw [c1']), ?_⟩
    repeat (first | with_reducible exact Below.refl _ _ | with_reducible assumption | ((with_reducible refine blA ?_ ?_); (focus (first | omega | (simp <;> omega)))) | (with_reducible refine blD ?_) | (with_reducible refine blN ?_) | ((with_reducible refine blS ?_ ?_); (focus (first | omega | (simp <;> omega)))) | ((with_reducible refine blT (by assumption) ?_ ?_); (focus (first | omega | (simp <;> omega)))))
set_option maxHeartbeats 1000000 in
theorem law_isProjective (x0 x1 x2 x3 x4 x5 x6 x7 : Int) (w : World) (_ : I64 x0) (_ : I64 x1) (_ : I64 x2) (_ : I64 x3) (_ : I64 x4) (_ : I64 x5) (_ : I64 x6) (_ : I64 x7) :
    Calls Try.prog 9 #[.agg #[.int .i64 x0, .int .i64 x1, .int .i64 x2, .int .i64 x3, .int .i64 x4, .int .i64 x5, .int .i64 x6, .int .i64 x7]] w fun en w' => en = .returned (.bool true) ∧ Below w.heap.size w w' := by
  go_enter Try.func9, Try.ntmps9
  go_wp2_with (first | (go_at_call 12; refine (toCube_any _ _ _ _ _ _ _ _ _).mono ?_; rintro e w' ⟨rfl, hB⟩; obtain ⟨hC, hF⟩ := bcell hB; have hS := hB.size; (try simp at hS); (try have hSl := Nat.lt_of_succ_le hS); (try have hS0 : w.heap.size < w'.heap.size := by omega); (try have hS1 : w.heap.size + 1 < w'.heap.size := by omega); (try have hS2 : w.heap.size + 1 + 1 < w'.heap.size := by omega); (try have hS3 : w.heap.size + 1 + 1 + 1 < w'.heap.size := by omega)) | (go_at_call 26; refine (specIsProjective_any _ _ _ _ _ _ _ _ _).mono ?_; rintro e w' ⟨rfl, hB⟩; obtain ⟨hC, hF⟩ := bcell hB; have hS := hB.size; (try simp at hS); (try have hSl := Nat.lt_of_succ_le hS); (try have hS0 : w.heap.size < w'.heap.size := by omega); (try have hS1 : w.heap.size + 1 < w'.heap.size := by omega); (try have hS2 : w.heap.size + 1 + 1 < w'.heap.size := by omega); (try have hS3 : w.heap.size + 1 + 1 + 1 < w'.heap.size := by omega)) | (go_at_call 27; refine (implIsProjective_any _ _ _ _ _ _ _ _ _).mono ?_; rintro e w' ⟨rfl, hB⟩; obtain ⟨hC, hF⟩ := bcell hB; have hS := hB.size; (try simp at hS); (try have hSl := Nat.lt_of_succ_le hS); (try have hS0 : w.heap.size < w'.heap.size := by omega); (try have hS1 : w.heap.size + 1 < w'.heap.size := by omega); (try have hS2 : w.heap.size + 1 + 1 < w'.heap.size := by omega); (try have hS3 : w.heap.size + 1 + 1 + 1 < w'.heap.size := by omega)))
  go_ret
  refine ⟨rfl, ?_⟩
  repeat (first | with_reducible exact Below.refl _ _ | with_reducible assumption | ((with_reducible refine blA ?_ ?_); (focus (first | omega | (simp <;> omega)))) | (with_reducible refine blD ?_) | (with_reducible refine blN ?_) | ((with_reducible refine blS ?_ ?_); (focus (first | omega | (simp <;> omega)))) | ((with_reducible refine blT (by assumption) ?_ ?_); (focus (first | omega | (simp <;> omega)))))
end Go.Proofs.Ytphmjehmeigmdaa
