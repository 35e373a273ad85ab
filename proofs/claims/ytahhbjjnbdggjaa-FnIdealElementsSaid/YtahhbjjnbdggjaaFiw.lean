/-
  The law FnIdealElements. (Printed by mkfie.py.)
-/
import Derived.Test.YtahhbjjnbdggjaaDro
import Derived.Test.YtahhbjjnbdggjaaFie
import Derived.Test.YtahhbjjnbdggjaaByt
namespace Go.Proofs.Ytahhbjjnbdggjaa
open Go.RowKit
attribute [local simp, local go_sem] past_cell past_frozen past_tape
theorem idNorm_val {e a : Int} (h : 1 ≤ e ∧ e ≤ 10000 ∧ 1 ≤ a ∧ a ≤ 10000) : wrap64 (wrap64 (e * e) * a) = e * e * a := by
  obtain ⟨m1, m2⟩ := mul_bd (show Bd 10000 e from ⟨by omega, by omega⟩) (show Bd 10000 e from ⟨by omega, by omega⟩) (show (10000 : Int) * 10000 ≤ 100000000 by decide)
  obtain ⟨n1, n2⟩ := mul_bd (show Bd 100000000 (e * e) from ⟨m1, m2⟩) (show Bd 10000 a from ⟨by omega, by omega⟩) (show (100000000 : Int) * 10000 ≤ 1000000000000 by decide)
  rw [show wrap64 (e * e) = e * e by unfold wrap64; omega]
  unfold wrap64; omega
theorem nrm_w {d e a b : Int} (h : idB d e a b = true) : wrap64 (e * e * a) = e * e * a := by
  obtain ⟨h0, h1, h2, h3, h4, h5, h6, h7⟩ := idB_true h
  obtain ⟨m1, m2⟩ := mul_bd (show Bd 10000 e from ⟨by omega, by omega⟩) (show Bd 10000 e from ⟨by omega, by omega⟩) (show (10000 : Int) * 10000 ≤ 100000000 by decide)
  obtain ⟨n1, n2⟩ := mul_bd (show Bd 100000000 (e * e) from ⟨m1, m2⟩) (show Bd 10000 a from ⟨by omega, by omega⟩) (show (100000000 : Int) * 10000 ≤ 1000000000000 by decide)
  unfold wrap64; omega
theorem idealNormV_any (d e a b : Int) (w : World) (h : idB d e a b = true) : Calls Try.prog 60 #[.agg #[.int .i64 e, .int .i64 a, .int .i64 b]] w fun en w' => en = .returned (.int .i64 (e * e * a)) ∧ Below w.heap.size w w' := by
  obtain ⟨h0, h1, h2, h3, h4, h5, h6, h7⟩ := idB_true h
  have hv := idNorm_val ⟨h1, h2, h3, h4⟩
  go_enter Try.func60, Try.ntmps60
  go_wp2_with fail
  refine bodyPost_ret (v := .int .i64 (e * e * a)) (by go_light; simp [results, Try.results60, go_sem, *]) rfl ⟨rfl, ?_⟩
  repeat (first | with_reducible exact Below.refl _ _ | with_reducible assumption | ((with_reducible refine blA ?_ ?_); (focus (first | omega | (simp <;> omega)))) | (with_reducible refine blD ?_) | (with_reducible refine blN ?_) | ((with_reducible refine blS ?_ ?_); (focus (first | omega | (simp <;> omega)))) | ((with_reducible refine blT (by assumption) ?_ ?_); (focus (first | omega | (simp <;> omega)))))
theorem idealNorm_yes (d e a b : Int) (w : World) (hd : I64 d) (h : idB d e a b = true) :
    Calls Try.prog 30 #[.int .i64 d, .agg #[.int .i64 e, .int .i64 a, .int .i64 b]] w fun en w' => en = .returned (.tuple #[.int .i64 (e * e * a), .bool true]) ∧ Below w.heap.size w w' := by
  obtain ⟨h0, h1, h2, h3, h4, h5, h6, h7⟩ := idB_true h
  have hv := idNorm_val ⟨h1, h2, h3, h4⟩
  go_enter Try.func30, Try.ntmps30
  go_wp2_with fail
  refine (isIdeal_any d e a b _ hd).mono ?_
  rw [h]
  rintro e w' ⟨rfl, hB⟩; obtain ⟨hC, hF⟩ := bcell hB; have hS := hB.size; (try simp at hS); (try have hSl := Nat.lt_of_succ_le hS); (try have hS0 : w.heap.size < w'.heap.size := by omega); (try have hS1 : w.heap.size + 1 < w'.heap.size := by omega); (try have hS2 : w.heap.size + 1 + 1 < w'.heap.size := by omega); (try have hS3 : w.heap.size + 1 + 1 + 1 < w'.heap.size := by omega)
  go_wp2_with (go_at_call 60; refine (idealNormV_any _ _ _ _ _ h).mono ?_; rintro e w' ⟨rfl, hB⟩; obtain ⟨hC, hF⟩ := bcell hB; have hS := hB.size; (try simp at hS); (try have hSl := Nat.lt_of_succ_le hS); (try have hS0 : w.heap.size < w'.heap.size := by omega); (try have hS1 : w.heap.size + 1 < w'.heap.size := by omega); (try have hS2 : w.heap.size + 1 + 1 < w'.heap.size := by omega); (try have hS3 : w.heap.size + 1 + 1 + 1 < w'.heap.size := by omega))
  (refine bodyPost_ret (v := .tuple #[.int .i64 (e * e * a), .bool true]) ?_ rfl ⟨?_, ?_⟩; (focus (go_light; first | (simp [results, Try.results30, go_sem, *]; done) | (simp (disch := first | omega | (simp <;> omega) | (refine isSome_of ?_ ?_; (focus ((repeat (first | ((with_reducible refine (cell_alloc_old _ _ _ _ ?_).trans ?_); (focus (first | omega | (simp <;> omega)))) | ((with_reducible refine (bG (by assumption) ?_).trans ?_); (focus (first | omega | (simp <;> omega)))))); exact rfl)); simp [go_sem]) | fail) [results, Try.results30, go_sem, *]; done))); (focus (rfl)); repeat (first | with_reducible exact Below.refl _ _ | with_reducible assumption | ((with_reducible refine blA ?_ ?_); (focus (first | omega | (simp <;> omega)))) | (with_reducible refine blD ?_) | (with_reducible refine blN ?_) | ((with_reducible refine blS ?_ ?_); (focus (first | omega | (simp <;> omega)))) | ((with_reducible refine blT (by assumption) ?_ ?_); (focus (first | omega | (simp <;> omega))))))
theorem muOk_both {d e a b e' a' b' : Int} (h : muOk d e a b e' a' b' = true) : idB d e a b = true ∧ idB d e' a' b' = true ∧ idB d (muE d e a b e' a' b') (lA (mulL d a b a' b')) (lB (mulL d a b a' b')) = true := by
  simp only [muOk, muB, Bool.and_eq_true] at h
  exact ⟨h.1.1, h.1.2, h.2⟩
theorem smOk_both {d e a b e' a' b' : Int} (h : smOk d e a b e' a' b' = true) : idB d e a b = true ∧ idB d e' a' b' = true ∧ idB d (lE (sumL e a b e' a' b')) (lA (sumL e a b e' a' b')) (lB (sumL e a b e' a' b')) = true := by
  simp only [smOk, smB, Bool.and_eq_true] at h
  exact ⟨h.1.1, h.1.2, h.2⟩
theorem prOk_both {d u v : Int} (h : prOk d u v = true) : idB d (pE d u v) (pA d u v) (pB d u v) = true := by
  simp only [prOk, Bool.and_eq_true] at h
  exact h.2
theorem norm_val {d u v n : Int} (hn : negB d = true) (he : elB d u v = true) (h : 4 * n = u * u - d * (v * v)) : (wrap64 (wrap64 (u * u) - wrap64 (wrap64 (d * v) * v))).tdiv 4 = n := by
  obtain ⟨d1, d2, d3⟩ := negB_true hn
  obtain ⟨hu, hv⟩ := elB_bd he
  obtain ⟨a1, a2⟩ := mul_bd hu hu (show (1000000 : Int) * 1000000 ≤ 1000000000000 by decide)
  obtain ⟨b1, b2⟩ := mul_bd (show Bd 2000 d from ⟨by omega, by omega⟩) hv (show (2000 : Int) * 1000000 ≤ 2000000000 by decide)
  obtain ⟨c1, c2⟩ := mul_bd (show Bd 2000000000 (d * v) from ⟨b1, b2⟩) hv (show (2000000000 : Int) * 1000000 ≤ 2000000000000000 by decide)
  rw [show wrap64 (u * u) = u * u by unfold wrap64; omega, show wrap64 (d * v) = d * v by unfold wrap64; omega, show wrap64 (d * v * v) = d * v * v by unfold wrap64; omega, Int.mul_assoc]
  rw [show wrap64 (u * u - d * (v * v)) = u * u - d * (v * v) by rw [Int.mul_assoc] at c1 c2; unfold wrap64; omega, ← h]
  exact Int.mul_tdiv_cancel_left _ (by omega)
set_option maxRecDepth 100000 in
set_option maxHeartbeats 40000000 in
theorem law_idealElements (a0 : Option Addr) (len0 cap0 : Nat) (a1 : Option Addr) (len1 cap1 : Nat) (w : World) (hc0 : CodeOk w.heap.size w a0 len0) (hc1 : CodeOk w.heap.size w a1 len1) (hl0 : len0 ≤ 9223372036854775807) (hl1 : len1 ≤ 9223372036854775807) :
    Calls Try.prog 10 #[.slice a0 len0 cap0, .slice a1 len1 cap1] w fun en w' => en = .returned (.bool true) ∧ Below w.heap.size w w' := by
  by_cases hbig : bigB len0 len1 = true
  · go_enter Try.func10, Try.ntmps10
    go_wp2_with fail
    refine (big_any _ _ _ _ _ _ _ hl0 hl1).mono ?_
    rintro e0 w1 ⟨rfl, hB⟩
    go_wp2_with fail
    go_ret
    refine ⟨rfl, ?_⟩
    repeat (first | with_reducible exact Below.refl _ _ | with_reducible assumption | ((with_reducible refine blA ?_ ?_); (focus (first | omega | (simp <;> omega)))) | (with_reducible refine blD ?_) | (with_reducible refine blN ?_) | ((with_reducible refine blS ?_ ?_); (focus (first | omega | (simp <;> omega)))) | ((with_reducible refine blT (by assumption) ?_ ?_); (focus (first | omega | (simp <;> omega)))))
  have hbig' : bigB len0 len1 = false := by simpa using hbig
  have hsm : (len0 : Int) ≤ 1048576 ∧ (len1 : Int) ≤ 1048576 := by
    simp only [bigB, Bool.or_eq_false_iff, decide_eq_false_iff_not] at hbig'
    omega
  go_enter Try.func10, Try.ntmps10
  go_wp2_with fail
  refine (big_any _ _ _ _ _ _ _ hl0 hl1).mono ?_
  rintro e0 va ⟨rfl, hBa⟩
  go_wp2_with fail
  refine (drawHasElement_any a0 len0 cap0 _ (hc0.up hBa.size hBa) (by omega)).mono ?_
  rintro ed vb ⟨⟨d, ⟨e0, a0', b0⟩, u, v, rfl, hd, hx, hu, hv⟩, hBb⟩
  have hW0 := Lib.hid (hBa.trans (hBb.mono hBa.size))
  have hwz0 := hW0.out.size
  clear hBa hBb hbig hx
  simp only at *
  by_cases hk : (idB d e0 a0' b0 && elB d u v) = true
  · have hk2 := hk
    simp only [Bool.and_eq_true] at hk2
    obtain ⟨hid, hel⟩ := hk2
    have his : heB d e0 a0' b0 u v = ihB e0 a0' b0 u v := by unfold heB; rw [hk, Bool.true_and]
    obtain ⟨is, hi⟩ : ∃ is, ihB e0 a0' b0 u v = is := ⟨_, rfl⟩
    rw [hi] at his
    have h1 : Hid (∀ w0, Calls Try.prog 16 #[.int .i64 d, .agg #[.int .i64 e0, .int .i64 a0', .int .i64 b0], .int .i64 u, .int .i64 v] w0 fun en w' => en = .returned (.tuple #[.bool is, .bool true]) ∧ Below w0.heap.size w0 w') := Lib.hid fun w0 => by have h := implHasElement_any d e0 a0' b0 u v w0 hd; rwa [hk, his] at h
    have h2 : Hid (∀ w0, Calls Try.prog 15 #[.int .i64 d, .agg #[.int .i64 e0, .int .i64 a0', .int .i64 b0], .int .i64 u, .int .i64 v] w0 fun en w' => en = .returned (.tuple #[.bool is, .bool true]) ∧ Below w0.heap.size w0 w') := Lib.hid fun w0 => by have h := specHasElement_any d e0 a0' b0 u v w0 hd; rwa [hk, his] at h
    clear his
    by_cases hp : prOk d u v = true
    · have hcn := pr_contains hid hel hp
      rw [hi] at hcn
      have hnv := norm_val (idB_true hid).1 hel (pr_norm (idB_true hid).1 hel hp)
      have hpb := prOk_both hp
      have g1 : Hid (∀ w0, Calls Try.prog 25 #[.int .i64 d, .int .i64 u, .int .i64 v] w0 fun en w' => en = .returned (.tuple #[.agg #[.int .i64 (pE d u v), .int .i64 (pA d u v), .int .i64 (pB d u v)], .bool true]) ∧ Below w0.heap.size w0 w') := Lib.hid fun w0 => by have h := implPrincipalIdeal_any d u v w0 hd; simpa only [hp, iz, if_true, if_false, Bool.false_eq_true] using h
      have g2 : Hid (∀ w0, Calls Try.prog 24 #[.int .i64 d, .int .i64 u, .int .i64 v] w0 fun en w' => en = .returned (.tuple #[.agg #[.int .i64 (pE d u v), .int .i64 (pA d u v), .int .i64 (pB d u v)], .bool true]) ∧ Below w0.heap.size w0 w') := Lib.hid fun w0 => by have h := specPrincipalIdeal_any d u v w0 hd; simpa only [hp, iz, if_true, if_false, Bool.false_eq_true] using h
      have n1 : Hid (∀ w0, Calls Try.prog 30 #[.int .i64 d, .agg #[.int .i64 (pE d u v), .int .i64 (pA d u v), .int .i64 (pB d u v)]] w0 fun en w' => en = .returned (.tuple #[.int .i64 (pE d u v * pE d u v * pA d u v), .bool true]) ∧ Below w0.heap.size w0 w') := Lib.hid fun w0 => idealNorm_yes d _ _ _ w0 hd hpb
      have k1 : Hid (∀ w0, Calls Try.prog 18 #[.int .i64 d, .agg #[.int .i64 e0, .int .i64 a0', .int .i64 b0], .agg #[.int .i64 (pE d u v), .int .i64 (pA d u v), .int .i64 (pB d u v)]] w0 fun en w' => en = .returned (.tuple #[.bool is, .bool true]) ∧ Below w0.heap.size w0 w') := Lib.hid fun w0 => by have h := implContainsIdeal_any d e0 a0' b0 (pE d u v) (pA d u v) (pB d u v) w0 hd; simpa only [hcn, hid, hpb, Bool.and_self] using h
      have hnw := Lib.hid (nrm_w hpb)
      have hnvI : Hid ((wrap64 (wrap64 (u * u) - wrap64 (wrap64 (d * v) * v))).tdiv 4 = pE d u v * pE d u v * pA d u v) := Lib.hid hnv
      clear hcn hnv hpb hp hi hid hel hk
      generalize pE d u v = E1 at *
      generalize pA d u v = A1 at *
      generalize pB d u v = B1 at *
      obtain ⟨nn, hnn⟩ : ∃ nn, E1 * E1 * A1 = nn := ⟨_, rfl⟩
      rw [hnn] at n1 hnvI hnw
      clear hnn
      go_wp2_with fail
      refine (h1.out _).mono ?_
      rintro e1 v1 ⟨rfl, hB1⟩
      obtain ⟨hC1, hF1⟩ := bcell hB1
      have hz1 := hB1.size
      (try simp at hz1)
      have hW1 : Hid (Below w.heap.size w v1) := Lib.hid (by have hX := hW0.out; repeat (first | with_reducible exact Below.refl _ _ | with_reducible assumption | ((with_reducible refine blA ?_ ?_); (focus (first | omega | (simp <;> omega)))) | (with_reducible refine blD ?_) | (with_reducible refine blN ?_) | ((with_reducible refine blS ?_ ?_); (focus (first | omega | (simp <;> omega)))) | ((with_reducible refine blT (by assumption) ?_ ?_); (focus (first | omega | (simp <;> omega))))))
      have hwz1 := hW1.out.size
      have hb1_0 : vb.heap.size < v1.heap.size := by omega
      have hc1_0 : vb.heap.size < v1.heap.size + 1 := by omega
      clear hB1
      go_wp2_with fail
      refine (h2.out _).mono ?_
      rintro e2 v2 ⟨rfl, hB2⟩
      obtain ⟨hC2, hF2⟩ := bcell hB2
      have hz2 := hB2.size
      (try simp at hz2)
      have hW2 : Hid (Below w.heap.size w v2) := Lib.hid (by have hX := hW1.out; repeat (first | with_reducible exact Below.refl _ _ | with_reducible assumption | ((with_reducible refine blA ?_ ?_); (focus (first | omega | (simp <;> omega)))) | (with_reducible refine blD ?_) | (with_reducible refine blN ?_) | ((with_reducible refine blS ?_ ?_); (focus (first | omega | (simp <;> omega)))) | ((with_reducible refine blT (by assumption) ?_ ?_); (focus (first | omega | (simp <;> omega))))))
      have hwz2 := hW2.out.size
      have hb2_0 : vb.heap.size < v2.heap.size := by omega
      have hc2_0 : vb.heap.size < v2.heap.size + 1 := by omega
      clear hB2
      go_wp2_with fail
      refine (g1.out _).mono ?_
      rintro e3 v3 ⟨rfl, hB3⟩
      obtain ⟨hC3, hF3⟩ := bcell hB3
      have hz3 := hB3.size
      (try simp at hz3)
      have hW3 : Hid (Below w.heap.size w v3) := Lib.hid (by have hX := hW2.out; repeat (first | with_reducible exact Below.refl _ _ | with_reducible assumption | ((with_reducible refine blA ?_ ?_); (focus (first | omega | (simp <;> omega)))) | (with_reducible refine blD ?_) | (with_reducible refine blN ?_) | ((with_reducible refine blS ?_ ?_); (focus (first | omega | (simp <;> omega)))) | ((with_reducible refine blT (by assumption) ?_ ?_); (focus (first | omega | (simp <;> omega))))))
      have hwz3 := hW3.out.size
      have hb3_0 : vb.heap.size < v3.heap.size := by omega
      have hc3_0 : vb.heap.size < v3.heap.size + 1 := by omega
      clear hB3
      go_wp2_with fail
      refine (g2.out _).mono ?_
      rintro e4 v4 ⟨rfl, hB4⟩
      obtain ⟨hC4, hF4⟩ := bcell hB4
      have hz4 := hB4.size
      (try simp at hz4)
      have hW4 : Hid (Below w.heap.size w v4) := Lib.hid (by have hX := hW3.out; repeat (first | with_reducible exact Below.refl _ _ | with_reducible assumption | ((with_reducible refine blA ?_ ?_); (focus (first | omega | (simp <;> omega)))) | (with_reducible refine blD ?_) | (with_reducible refine blN ?_) | ((with_reducible refine blS ?_ ?_); (focus (first | omega | (simp <;> omega)))) | ((with_reducible refine blT (by assumption) ?_ ?_); (focus (first | omega | (simp <;> omega))))))
      have hwz4 := hW4.out.size
      have hb4_0 : vb.heap.size < v4.heap.size := by omega
      have hc4_0 : vb.heap.size < v4.heap.size + 1 := by omega
      have hb4_1 : v3.heap.size < v4.heap.size := by omega
      have hc4_1 : v3.heap.size < v4.heap.size + 1 := by omega
      clear hB4
      go_wp2_with fail
      refine (n1.out _).mono ?_
      rintro e5 v5 ⟨rfl, hB5⟩
      obtain ⟨hC5, hF5⟩ := bcell hB5
      have hz5 := hB5.size
      (try simp at hz5)
      have hW5 : Hid (Below w.heap.size w v5) := Lib.hid (by have hX := hW4.out; repeat (first | with_reducible exact Below.refl _ _ | with_reducible assumption | ((with_reducible refine blA ?_ ?_); (focus (first | omega | (simp <;> omega)))) | (with_reducible refine blD ?_) | (with_reducible refine blN ?_) | ((with_reducible refine blS ?_ ?_); (focus (first | omega | (simp <;> omega)))) | ((with_reducible refine blT (by assumption) ?_ ?_); (focus (first | omega | (simp <;> omega))))))
      have hwz5 := hW5.out.size
      have hb5_0 : vb.heap.size < v5.heap.size := by omega
      have hc5_0 : vb.heap.size < v5.heap.size + 1 := by omega
      have hb5_1 : v3.heap.size < v5.heap.size := by omega
      have hc5_1 : v3.heap.size < v5.heap.size + 1 := by omega
      clear hB5
      go_wp2_with fail
      refine (k1.out _).mono ?_
      rintro e6 v6 ⟨rfl, hB6⟩
      obtain ⟨hC6, hF6⟩ := bcell hB6
      have hz6 := hB6.size
      (try simp at hz6)
      have hW6 : Hid (Below w.heap.size w v6) := Lib.hid (by have hX := hW5.out; repeat (first | with_reducible exact Below.refl _ _ | with_reducible assumption | ((with_reducible refine blA ?_ ?_); (focus (first | omega | (simp <;> omega)))) | (with_reducible refine blD ?_) | (with_reducible refine blN ?_) | ((with_reducible refine blS ?_ ?_); (focus (first | omega | (simp <;> omega)))) | ((with_reducible refine blT (by assumption) ?_ ?_); (focus (first | omega | (simp <;> omega))))))
      have hwz6 := hW6.out.size
      have hb6_0 : vb.heap.size < v6.heap.size := by omega
      have hc6_0 : vb.heap.size < v6.heap.size + 1 := by omega
      have hb6_1 : v3.heap.size < v6.heap.size := by omega
      have hc6_1 : v3.heap.size < v6.heap.size + 1 := by omega
      clear hB6
      go_wp2_with fail
      rotate_left
      · exact absurd (show nn = wrap64 ((wrap64 (wrap64 (u * u) - wrap64 (wrap64 (d * v) * v))).tdiv 4) by rw [hnvI.out, hnw.out]) (by assumption)
      refine (drawIdealSum_any a1 len1 cap1 _ (hc1.up (show w.heap.size ≤ _ by first | omega | (simp; omega)) (show Below w.heap.size w _ by have hX := hW6.out; repeat (first | with_reducible exact Below.refl _ _ | with_reducible assumption | ((with_reducible refine blA ?_ ?_); (focus (first | omega | (simp <;> omega)))) | (with_reducible refine blD ?_) | (with_reducible refine blN ?_) | ((with_reducible refine blS ?_ ?_); (focus (first | omega | (simp <;> omega)))) | ((with_reducible refine blT (by assumption) ?_ ?_); (focus (first | omega | (simp <;> omega))))))) (by omega)).mono ?_
      rintro e7 v7 ⟨⟨d2, ⟨e, a, b⟩, ⟨e', a', b'⟩, rfl, hd2, hx2, hy2⟩, hB7⟩
      have hz7 := hB7.size
      (try simp at hz7)
      have hW7 : Hid (Below w.heap.size w v7) := Lib.hid (by have hX := hW6.out; repeat (first | with_reducible exact Below.refl _ _ | with_reducible assumption | ((with_reducible refine blA ?_ ?_); (focus (first | omega | (simp <;> omega)))) | (with_reducible refine blD ?_) | (with_reducible refine blN ?_) | ((with_reducible refine blS ?_ ?_); (focus (first | omega | (simp <;> omega)))) | ((with_reducible refine blT (by assumption) ?_ ?_); (focus (first | omega | (simp <;> omega))))))
      have hwz7 := hW7.out.size
      clear hB7 hx2 hy2
      simp only at *
      by_cases hs : smOk d2 e a b e' a' b' = true
      · obtain ⟨m1, m2⟩ := sum_contains hs
        have m3 := smOk_both hs
        have c1 : Hid (∀ w0, Calls Try.prog 22 #[.int .i64 d2, .agg #[.int .i64 e, .int .i64 a, .int .i64 b], .agg #[.int .i64 e', .int .i64 a', .int .i64 b']] w0 fun en w' => en = .returned (.tuple #[.agg #[.int .i64 (lE (sumL e a b e' a' b')), .int .i64 (lA (sumL e a b e' a' b')), .int .i64 (lB (sumL e a b e' a' b'))], .bool true]) ∧ Below w0.heap.size w0 w') := Lib.hid fun w0 => by have h := implIdealSum_any d2 e a b e' a' b' w0 hd2; simpa only [hs, iz, if_true, if_false, Bool.false_eq_true] using h
        have c2 : Hid (∀ w0, Calls Try.prog 21 #[.int .i64 d2, .agg #[.int .i64 e, .int .i64 a, .int .i64 b], .agg #[.int .i64 e', .int .i64 a', .int .i64 b']] w0 fun en w' => en = .returned (.tuple #[.agg #[.int .i64 (lE (sumL e a b e' a' b')), .int .i64 (lA (sumL e a b e' a' b')), .int .i64 (lB (sumL e a b e' a' b'))], .bool true]) ∧ Below w0.heap.size w0 w') := Lib.hid fun w0 => by have h := specIdealSum_any d2 e a b e' a' b' w0 hd2; simpa only [hs, iz, if_true, if_false, Bool.false_eq_true] using h
        have r1 : Hid (∀ w0, Calls Try.prog 18 #[.int .i64 d2, .agg #[.int .i64 (lE (sumL e a b e' a' b')), .int .i64 (lA (sumL e a b e' a' b')), .int .i64 (lB (sumL e a b e' a' b'))], .agg #[.int .i64 e, .int .i64 a, .int .i64 b]] w0 fun en w' => en = .returned (.tuple #[.bool true, .bool true]) ∧ Below w0.heap.size w0 w') := Lib.hid fun w0 => by have h := implContainsIdeal_any d2 (lE (sumL e a b e' a' b')) (lA (sumL e a b e' a' b')) (lB (sumL e a b e' a' b')) e a b w0 hd2; simpa only [m1, m3.1, m3.2.2, Bool.and_self] using h
        have r2 : Hid (∀ w0, Calls Try.prog 18 #[.int .i64 d2, .agg #[.int .i64 (lE (sumL e a b e' a' b')), .int .i64 (lA (sumL e a b e' a' b')), .int .i64 (lB (sumL e a b e' a' b'))], .agg #[.int .i64 e', .int .i64 a', .int .i64 b']] w0 fun en w' => en = .returned (.tuple #[.bool true, .bool true]) ∧ Below w0.heap.size w0 w') := Lib.hid fun w0 => by have h := implContainsIdeal_any d2 (lE (sumL e a b e' a' b')) (lA (sumL e a b e' a' b')) (lB (sumL e a b e' a' b')) e' a' b' w0 hd2; simpa only [m2, m3.2.1, m3.2.2, Bool.and_self] using h
        clear m1 m2 m3 hs
        generalize lE (sumL e a b e' a' b') = E2 at *
        generalize lA (sumL e a b e' a' b') = A2 at *
        generalize lB (sumL e a b e' a' b') = B2 at *
        go_wp2_with fail
        refine (c1.out _).mono ?_
        rintro e8 v8 ⟨rfl, hB8⟩
        obtain ⟨hC8, hF8⟩ := bcell hB8
        have hz8 := hB8.size
        (try simp at hz8)
        have hW8 : Hid (Below w.heap.size w v8) := Lib.hid (by have hX := hW7.out; repeat (first | with_reducible exact Below.refl _ _ | with_reducible assumption | ((with_reducible refine blA ?_ ?_); (focus (first | omega | (simp <;> omega)))) | (with_reducible refine blD ?_) | (with_reducible refine blN ?_) | ((with_reducible refine blS ?_ ?_); (focus (first | omega | (simp <;> omega)))) | ((with_reducible refine blT (by assumption) ?_ ?_); (focus (first | omega | (simp <;> omega))))))
        have hwz8 := hW8.out.size
        have hb8_0 : v7.heap.size < v8.heap.size := by omega
        have hc8_0 : v7.heap.size < v8.heap.size + 1 := by omega
        have hb8_1 : v7.heap.size + 1 < v8.heap.size := by omega
        have hc8_1 : v7.heap.size + 1 < v8.heap.size + 1 := by omega
        clear hB8
        go_wp2_with fail
        refine (c2.out _).mono ?_
        rintro e9 v9 ⟨rfl, hB9⟩
        obtain ⟨hC9, hF9⟩ := bcell hB9
        have hz9 := hB9.size
        (try simp at hz9)
        have hW9 : Hid (Below w.heap.size w v9) := Lib.hid (by have hX := hW8.out; repeat (first | with_reducible exact Below.refl _ _ | with_reducible assumption | ((with_reducible refine blA ?_ ?_); (focus (first | omega | (simp <;> omega)))) | (with_reducible refine blD ?_) | (with_reducible refine blN ?_) | ((with_reducible refine blS ?_ ?_); (focus (first | omega | (simp <;> omega)))) | ((with_reducible refine blT (by assumption) ?_ ?_); (focus (first | omega | (simp <;> omega))))))
        have hwz9 := hW9.out.size
        have hb9_0 : v7.heap.size < v9.heap.size := by omega
        have hc9_0 : v7.heap.size < v9.heap.size + 1 := by omega
        have hb9_1 : v7.heap.size + 1 < v9.heap.size := by omega
        have hc9_1 : v7.heap.size + 1 < v9.heap.size + 1 := by omega
        have hb9_2 : v8.heap.size < v9.heap.size := by omega
        have hc9_2 : v8.heap.size < v9.heap.size + 1 := by omega
        clear hB9
        go_wp2_with fail
        refine (r1.out _).mono ?_
        rintro e10 v10 ⟨rfl, hB10⟩
        obtain ⟨hC10, hF10⟩ := bcell hB10
        have hz10 := hB10.size
        (try simp at hz10)
        have hW10 : Hid (Below w.heap.size w v10) := Lib.hid (by have hX := hW9.out; repeat (first | with_reducible exact Below.refl _ _ | with_reducible assumption | ((with_reducible refine blA ?_ ?_); (focus (first | omega | (simp <;> omega)))) | (with_reducible refine blD ?_) | (with_reducible refine blN ?_) | ((with_reducible refine blS ?_ ?_); (focus (first | omega | (simp <;> omega)))) | ((with_reducible refine blT (by assumption) ?_ ?_); (focus (first | omega | (simp <;> omega))))))
        have hwz10 := hW10.out.size
        have hb10_0 : v7.heap.size < v10.heap.size := by omega
        have hc10_0 : v7.heap.size < v10.heap.size + 1 := by omega
        have hb10_1 : v7.heap.size + 1 < v10.heap.size := by omega
        have hc10_1 : v7.heap.size + 1 < v10.heap.size + 1 := by omega
        have hb10_2 : v8.heap.size < v10.heap.size := by omega
        have hc10_2 : v8.heap.size < v10.heap.size + 1 := by omega
        clear hB10
        go_wp2_with fail
        refine (r2.out _).mono ?_
        rintro e11 v11 ⟨rfl, hB11⟩
        obtain ⟨hC11, hF11⟩ := bcell hB11
        have hz11 := hB11.size
        (try simp at hz11)
        have hW11 : Hid (Below w.heap.size w v11) := Lib.hid (by have hX := hW10.out; repeat (first | with_reducible exact Below.refl _ _ | with_reducible assumption | ((with_reducible refine blA ?_ ?_); (focus (first | omega | (simp <;> omega)))) | (with_reducible refine blD ?_) | (with_reducible refine blN ?_) | ((with_reducible refine blS ?_ ?_); (focus (first | omega | (simp <;> omega)))) | ((with_reducible refine blT (by assumption) ?_ ?_); (focus (first | omega | (simp <;> omega))))))
        have hwz11 := hW11.out.size
        have hb11_0 : v7.heap.size < v11.heap.size := by omega
        have hc11_0 : v7.heap.size < v11.heap.size + 1 := by omega
        have hb11_1 : v7.heap.size + 1 < v11.heap.size := by omega
        have hc11_1 : v7.heap.size + 1 < v11.heap.size + 1 := by omega
        have hb11_2 : v8.heap.size < v11.heap.size := by omega
        have hc11_2 : v8.heap.size < v11.heap.size + 1 := by omega
        clear hB11
        by_cases hm : muOk d2 e a b e' a' b' = true
        · obtain ⟨m1, m2⟩ := mul_contains hm
          have m3 := muOk_both hm
          have p1 : Hid (∀ w0, Calls Try.prog 27 #[.int .i64 d2, .agg #[.int .i64 e, .int .i64 a, .int .i64 b], .agg #[.int .i64 e', .int .i64 a', .int .i64 b']] w0 fun en w' => en = .returned (.tuple #[.agg #[.int .i64 (muE d2 e a b e' a' b'), .int .i64 (lA (mulL d2 a b a' b')), .int .i64 (lB (mulL d2 a b a' b'))], .bool true]) ∧ Below w0.heap.size w0 w') := Lib.hid fun w0 => by have h := implIdealProduct_any d2 e a b e' a' b' w0 hd2; simpa only [hm, iz, if_true, if_false, Bool.false_eq_true] using h
          have p2 : Hid (∀ w0, Calls Try.prog 26 #[.int .i64 d2, .agg #[.int .i64 e, .int .i64 a, .int .i64 b], .agg #[.int .i64 e', .int .i64 a', .int .i64 b']] w0 fun en w' => en = .returned (.tuple #[.agg #[.int .i64 (muE d2 e a b e' a' b'), .int .i64 (lA (mulL d2 a b a' b')), .int .i64 (lB (mulL d2 a b a' b'))], .bool true]) ∧ Below w0.heap.size w0 w') := Lib.hid fun w0 => by have h := specIdealProduct_any d2 e a b e' a' b' w0 hd2; simpa only [hm, iz, if_true, if_false, Bool.false_eq_true] using h
          have q1 : Hid (∀ w0, Calls Try.prog 18 #[.int .i64 d2, .agg #[.int .i64 e, .int .i64 a, .int .i64 b], .agg #[.int .i64 (muE d2 e a b e' a' b'), .int .i64 (lA (mulL d2 a b a' b')), .int .i64 (lB (mulL d2 a b a' b'))]] w0 fun en w' => en = .returned (.tuple #[.bool true, .bool true]) ∧ Below w0.heap.size w0 w') := Lib.hid fun w0 => by have h := implContainsIdeal_any d2 e a b (muE d2 e a b e' a' b') (lA (mulL d2 a b a' b')) (lB (mulL d2 a b a' b')) w0 hd2; simpa only [m1, m3.1, m3.2.2, Bool.and_self] using h
          have q2 : Hid (∀ w0, Calls Try.prog 18 #[.int .i64 d2, .agg #[.int .i64 e', .int .i64 a', .int .i64 b'], .agg #[.int .i64 (muE d2 e a b e' a' b'), .int .i64 (lA (mulL d2 a b a' b')), .int .i64 (lB (mulL d2 a b a' b'))]] w0 fun en w' => en = .returned (.tuple #[.bool true, .bool true]) ∧ Below w0.heap.size w0 w') := Lib.hid fun w0 => by have h := implContainsIdeal_any d2 e' a' b' (muE d2 e a b e' a' b') (lA (mulL d2 a b a' b')) (lB (mulL d2 a b a' b')) w0 hd2; simpa only [m2, m3.2.1, m3.2.2, Bool.and_self] using h
          clear m1 m2 m3 hm
          generalize muE d2 e a b e' a' b' = E3 at *
          generalize lA (mulL d2 a b a' b') = A3 at *
          generalize lB (mulL d2 a b a' b') = B3 at *
          go_wp2_with fail
          refine (p1.out _).mono ?_
          rintro e12 v12 ⟨rfl, hB12⟩
          obtain ⟨hC12, hF12⟩ := bcell hB12
          have hz12 := hB12.size
          (try simp at hz12)
          have hW12 : Hid (Below w.heap.size w v12) := Lib.hid (by have hX := hW11.out; repeat (first | with_reducible exact Below.refl _ _ | with_reducible assumption | ((with_reducible refine blA ?_ ?_); (focus (first | omega | (simp <;> omega)))) | (with_reducible refine blD ?_) | (with_reducible refine blN ?_) | ((with_reducible refine blS ?_ ?_); (focus (first | omega | (simp <;> omega)))) | ((with_reducible refine blT (by assumption) ?_ ?_); (focus (first | omega | (simp <;> omega))))))
          have hwz12 := hW12.out.size
          have hb12_0 : v7.heap.size < v12.heap.size := by omega
          have hc12_0 : v7.heap.size < v12.heap.size + 1 := by omega
          have hb12_1 : v7.heap.size + 1 < v12.heap.size := by omega
          have hc12_1 : v7.heap.size + 1 < v12.heap.size + 1 := by omega
          clear hB12
          go_wp2_with fail
          refine (p2.out _).mono ?_
          rintro e13 v13 ⟨rfl, hB13⟩
          obtain ⟨hC13, hF13⟩ := bcell hB13
          have hz13 := hB13.size
          (try simp at hz13)
          have hW13 : Hid (Below w.heap.size w v13) := Lib.hid (by have hX := hW12.out; repeat (first | with_reducible exact Below.refl _ _ | with_reducible assumption | ((with_reducible refine blA ?_ ?_); (focus (first | omega | (simp <;> omega)))) | (with_reducible refine blD ?_) | (with_reducible refine blN ?_) | ((with_reducible refine blS ?_ ?_); (focus (first | omega | (simp <;> omega)))) | ((with_reducible refine blT (by assumption) ?_ ?_); (focus (first | omega | (simp <;> omega))))))
          have hwz13 := hW13.out.size
          have hb13_0 : v7.heap.size < v13.heap.size := by omega
          have hc13_0 : v7.heap.size < v13.heap.size + 1 := by omega
          have hb13_1 : v7.heap.size + 1 < v13.heap.size := by omega
          have hc13_1 : v7.heap.size + 1 < v13.heap.size + 1 := by omega
          have hb13_2 : v12.heap.size < v13.heap.size := by omega
          have hc13_2 : v12.heap.size < v13.heap.size + 1 := by omega
          clear hB13
          go_wp2_with fail
          refine (q1.out _).mono ?_
          rintro e14 v14 ⟨rfl, hB14⟩
          obtain ⟨hC14, hF14⟩ := bcell hB14
          have hz14 := hB14.size
          (try simp at hz14)
          have hW14 : Hid (Below w.heap.size w v14) := Lib.hid (by have hX := hW13.out; repeat (first | with_reducible exact Below.refl _ _ | with_reducible assumption | ((with_reducible refine blA ?_ ?_); (focus (first | omega | (simp <;> omega)))) | (with_reducible refine blD ?_) | (with_reducible refine blN ?_) | ((with_reducible refine blS ?_ ?_); (focus (first | omega | (simp <;> omega)))) | ((with_reducible refine blT (by assumption) ?_ ?_); (focus (first | omega | (simp <;> omega))))))
          have hwz14 := hW14.out.size
          have hb14_0 : v7.heap.size < v14.heap.size := by omega
          have hc14_0 : v7.heap.size < v14.heap.size + 1 := by omega
          have hb14_1 : v7.heap.size + 1 < v14.heap.size := by omega
          have hc14_1 : v7.heap.size + 1 < v14.heap.size + 1 := by omega
          have hb14_2 : v12.heap.size < v14.heap.size := by omega
          have hc14_2 : v12.heap.size < v14.heap.size + 1 := by omega
          clear hB14
          go_wp2_with fail
          refine (q2.out _).mono ?_
          rintro e15 v15 ⟨rfl, hB15⟩
          obtain ⟨hC15, hF15⟩ := bcell hB15
          have hz15 := hB15.size
          (try simp at hz15)
          have hW15 : Hid (Below w.heap.size w v15) := Lib.hid (by have hX := hW14.out; repeat (first | with_reducible exact Below.refl _ _ | with_reducible assumption | ((with_reducible refine blA ?_ ?_); (focus (first | omega | (simp <;> omega)))) | (with_reducible refine blD ?_) | (with_reducible refine blN ?_) | ((with_reducible refine blS ?_ ?_); (focus (first | omega | (simp <;> omega)))) | ((with_reducible refine blT (by assumption) ?_ ?_); (focus (first | omega | (simp <;> omega))))))
          have hwz15 := hW15.out.size
          have hb15_0 : v7.heap.size < v15.heap.size := by omega
          have hc15_0 : v7.heap.size < v15.heap.size + 1 := by omega
          have hb15_1 : v7.heap.size + 1 < v15.heap.size := by omega
          have hc15_1 : v7.heap.size + 1 < v15.heap.size + 1 := by omega
          have hb15_2 : v12.heap.size < v15.heap.size := by omega
          have hc15_2 : v12.heap.size < v15.heap.size + 1 := by omega
          clear hB15
          go_wp2_with fail
          go_ret
          refine ⟨rfl, ?_⟩
          have hX := hW15.out
          repeat (first | with_reducible exact Below.refl _ _ | with_reducible assumption | ((with_reducible refine blA ?_ ?_); (focus (first | omega | (simp <;> omega)))) | (with_reducible refine blD ?_) | (with_reducible refine blN ?_) | ((with_reducible refine blS ?_ ?_); (focus (first | omega | (simp <;> omega)))) | ((with_reducible refine blT (by assumption) ?_ ?_); (focus (first | omega | (simp <;> omega)))))
        · have hm' : muOk d2 e a b e' a' b' = false := by simpa using hm
          have p1 : Hid (∀ w0, Calls Try.prog 27 #[.int .i64 d2, .agg #[.int .i64 e, .int .i64 a, .int .i64 b], .agg #[.int .i64 e', .int .i64 a', .int .i64 b']] w0 fun en w' => en = .returned (.tuple #[.agg #[.int .i64 0, .int .i64 0, .int .i64 0], .bool false]) ∧ Below w0.heap.size w0 w') := Lib.hid fun w0 => by have h := implIdealProduct_any d2 e a b e' a' b' w0 hd2; simpa only [hm', iz, if_true, if_false, Bool.false_eq_true] using h
          have p2 : Hid (∀ w0, Calls Try.prog 26 #[.int .i64 d2, .agg #[.int .i64 e, .int .i64 a, .int .i64 b], .agg #[.int .i64 e', .int .i64 a', .int .i64 b']] w0 fun en w' => en = .returned (.tuple #[.agg #[.int .i64 0, .int .i64 0, .int .i64 0], .bool false]) ∧ Below w0.heap.size w0 w') := Lib.hid fun w0 => by have h := specIdealProduct_any d2 e a b e' a' b' w0 hd2; simpa only [hm', iz, if_true, if_false, Bool.false_eq_true] using h
          clear hm hm'
          go_wp2_with fail
          refine (p1.out _).mono ?_
          rintro e16 v16 ⟨rfl, hB16⟩
          obtain ⟨hC16, hF16⟩ := bcell hB16
          have hz16 := hB16.size
          (try simp at hz16)
          have hW16 : Hid (Below w.heap.size w v16) := Lib.hid (by have hX := hW11.out; repeat (first | with_reducible exact Below.refl _ _ | with_reducible assumption | ((with_reducible refine blA ?_ ?_); (focus (first | omega | (simp <;> omega)))) | (with_reducible refine blD ?_) | (with_reducible refine blN ?_) | ((with_reducible refine blS ?_ ?_); (focus (first | omega | (simp <;> omega)))) | ((with_reducible refine blT (by assumption) ?_ ?_); (focus (first | omega | (simp <;> omega))))))
          have hwz16 := hW16.out.size
          have hb16_0 : v7.heap.size < v16.heap.size := by omega
          have hc16_0 : v7.heap.size < v16.heap.size + 1 := by omega
          have hb16_1 : v7.heap.size + 1 < v16.heap.size := by omega
          have hc16_1 : v7.heap.size + 1 < v16.heap.size + 1 := by omega
          clear hB16
          go_wp2_with fail
          refine (p2.out _).mono ?_
          rintro e17 v17 ⟨rfl, hB17⟩
          obtain ⟨hC17, hF17⟩ := bcell hB17
          have hz17 := hB17.size
          (try simp at hz17)
          have hW17 : Hid (Below w.heap.size w v17) := Lib.hid (by have hX := hW16.out; repeat (first | with_reducible exact Below.refl _ _ | with_reducible assumption | ((with_reducible refine blA ?_ ?_); (focus (first | omega | (simp <;> omega)))) | (with_reducible refine blD ?_) | (with_reducible refine blN ?_) | ((with_reducible refine blS ?_ ?_); (focus (first | omega | (simp <;> omega)))) | ((with_reducible refine blT (by assumption) ?_ ?_); (focus (first | omega | (simp <;> omega))))))
          have hwz17 := hW17.out.size
          have hb17_0 : v7.heap.size < v17.heap.size := by omega
          have hc17_0 : v7.heap.size < v17.heap.size + 1 := by omega
          have hb17_1 : v7.heap.size + 1 < v17.heap.size := by omega
          have hc17_1 : v7.heap.size + 1 < v17.heap.size + 1 := by omega
          have hb17_2 : v16.heap.size < v17.heap.size := by omega
          have hc17_2 : v16.heap.size < v17.heap.size + 1 := by omega
          clear hB17
          go_wp2_with fail
          go_ret
          refine ⟨rfl, ?_⟩
          have hX := hW17.out
          repeat (first | with_reducible exact Below.refl _ _ | with_reducible assumption | ((with_reducible refine blA ?_ ?_); (focus (first | omega | (simp <;> omega)))) | (with_reducible refine blD ?_) | (with_reducible refine blN ?_) | ((with_reducible refine blS ?_ ?_); (focus (first | omega | (simp <;> omega)))) | ((with_reducible refine blT (by assumption) ?_ ?_); (focus (first | omega | (simp <;> omega)))))
      · have hs' : smOk d2 e a b e' a' b' = false := by simpa using hs
        have c1 : Hid (∀ w0, Calls Try.prog 22 #[.int .i64 d2, .agg #[.int .i64 e, .int .i64 a, .int .i64 b], .agg #[.int .i64 e', .int .i64 a', .int .i64 b']] w0 fun en w' => en = .returned (.tuple #[.agg #[.int .i64 0, .int .i64 0, .int .i64 0], .bool false]) ∧ Below w0.heap.size w0 w') := Lib.hid fun w0 => by have h := implIdealSum_any d2 e a b e' a' b' w0 hd2; simpa only [hs', iz, if_true, if_false, Bool.false_eq_true] using h
        have c2 : Hid (∀ w0, Calls Try.prog 21 #[.int .i64 d2, .agg #[.int .i64 e, .int .i64 a, .int .i64 b], .agg #[.int .i64 e', .int .i64 a', .int .i64 b']] w0 fun en w' => en = .returned (.tuple #[.agg #[.int .i64 0, .int .i64 0, .int .i64 0], .bool false]) ∧ Below w0.heap.size w0 w') := Lib.hid fun w0 => by have h := specIdealSum_any d2 e a b e' a' b' w0 hd2; simpa only [hs', iz, if_true, if_false, Bool.false_eq_true] using h
        clear hs hs'
        go_wp2_with fail
        refine (c1.out _).mono ?_
        rintro e18 v18 ⟨rfl, hB18⟩
        obtain ⟨hC18, hF18⟩ := bcell hB18
        have hz18 := hB18.size
        (try simp at hz18)
        have hW18 : Hid (Below w.heap.size w v18) := Lib.hid (by have hX := hW7.out; repeat (first | with_reducible exact Below.refl _ _ | with_reducible assumption | ((with_reducible refine blA ?_ ?_); (focus (first | omega | (simp <;> omega)))) | (with_reducible refine blD ?_) | (with_reducible refine blN ?_) | ((with_reducible refine blS ?_ ?_); (focus (first | omega | (simp <;> omega)))) | ((with_reducible refine blT (by assumption) ?_ ?_); (focus (first | omega | (simp <;> omega))))))
        have hwz18 := hW18.out.size
        have hb18_0 : v7.heap.size < v18.heap.size := by omega
        have hc18_0 : v7.heap.size < v18.heap.size + 1 := by omega
        have hb18_1 : v7.heap.size + 1 < v18.heap.size := by omega
        have hc18_1 : v7.heap.size + 1 < v18.heap.size + 1 := by omega
        clear hB18
        go_wp2_with fail
        refine (c2.out _).mono ?_
        rintro e19 v19 ⟨rfl, hB19⟩
        obtain ⟨hC19, hF19⟩ := bcell hB19
        have hz19 := hB19.size
        (try simp at hz19)
        have hW19 : Hid (Below w.heap.size w v19) := Lib.hid (by have hX := hW18.out; repeat (first | with_reducible exact Below.refl _ _ | with_reducible assumption | ((with_reducible refine blA ?_ ?_); (focus (first | omega | (simp <;> omega)))) | (with_reducible refine blD ?_) | (with_reducible refine blN ?_) | ((with_reducible refine blS ?_ ?_); (focus (first | omega | (simp <;> omega)))) | ((with_reducible refine blT (by assumption) ?_ ?_); (focus (first | omega | (simp <;> omega))))))
        have hwz19 := hW19.out.size
        have hb19_0 : v7.heap.size < v19.heap.size := by omega
        have hc19_0 : v7.heap.size < v19.heap.size + 1 := by omega
        have hb19_1 : v7.heap.size + 1 < v19.heap.size := by omega
        have hc19_1 : v7.heap.size + 1 < v19.heap.size + 1 := by omega
        have hb19_2 : v18.heap.size < v19.heap.size := by omega
        have hc19_2 : v18.heap.size < v19.heap.size + 1 := by omega
        clear hB19
        by_cases hm : muOk d2 e a b e' a' b' = true
        · obtain ⟨m1, m2⟩ := mul_contains hm
          have m3 := muOk_both hm
          have p1 : Hid (∀ w0, Calls Try.prog 27 #[.int .i64 d2, .agg #[.int .i64 e, .int .i64 a, .int .i64 b], .agg #[.int .i64 e', .int .i64 a', .int .i64 b']] w0 fun en w' => en = .returned (.tuple #[.agg #[.int .i64 (muE d2 e a b e' a' b'), .int .i64 (lA (mulL d2 a b a' b')), .int .i64 (lB (mulL d2 a b a' b'))], .bool true]) ∧ Below w0.heap.size w0 w') := Lib.hid fun w0 => by have h := implIdealProduct_any d2 e a b e' a' b' w0 hd2; simpa only [hm, iz, if_true, if_false, Bool.false_eq_true] using h
          have p2 : Hid (∀ w0, Calls Try.prog 26 #[.int .i64 d2, .agg #[.int .i64 e, .int .i64 a, .int .i64 b], .agg #[.int .i64 e', .int .i64 a', .int .i64 b']] w0 fun en w' => en = .returned (.tuple #[.agg #[.int .i64 (muE d2 e a b e' a' b'), .int .i64 (lA (mulL d2 a b a' b')), .int .i64 (lB (mulL d2 a b a' b'))], .bool true]) ∧ Below w0.heap.size w0 w') := Lib.hid fun w0 => by have h := specIdealProduct_any d2 e a b e' a' b' w0 hd2; simpa only [hm, iz, if_true, if_false, Bool.false_eq_true] using h
          have q1 : Hid (∀ w0, Calls Try.prog 18 #[.int .i64 d2, .agg #[.int .i64 e, .int .i64 a, .int .i64 b], .agg #[.int .i64 (muE d2 e a b e' a' b'), .int .i64 (lA (mulL d2 a b a' b')), .int .i64 (lB (mulL d2 a b a' b'))]] w0 fun en w' => en = .returned (.tuple #[.bool true, .bool true]) ∧ Below w0.heap.size w0 w') := Lib.hid fun w0 => by have h := implContainsIdeal_any d2 e a b (muE d2 e a b e' a' b') (lA (mulL d2 a b a' b')) (lB (mulL d2 a b a' b')) w0 hd2; simpa only [m1, m3.1, m3.2.2, Bool.and_self] using h
          have q2 : Hid (∀ w0, Calls Try.prog 18 #[.int .i64 d2, .agg #[.int .i64 e', .int .i64 a', .int .i64 b'], .agg #[.int .i64 (muE d2 e a b e' a' b'), .int .i64 (lA (mulL d2 a b a' b')), .int .i64 (lB (mulL d2 a b a' b'))]] w0 fun en w' => en = .returned (.tuple #[.bool true, .bool true]) ∧ Below w0.heap.size w0 w') := Lib.hid fun w0 => by have h := implContainsIdeal_any d2 e' a' b' (muE d2 e a b e' a' b') (lA (mulL d2 a b a' b')) (lB (mulL d2 a b a' b')) w0 hd2; simpa only [m2, m3.2.1, m3.2.2, Bool.and_self] using h
          clear m1 m2 m3 hm
          generalize muE d2 e a b e' a' b' = E3 at *
          generalize lA (mulL d2 a b a' b') = A3 at *
          generalize lB (mulL d2 a b a' b') = B3 at *
          go_wp2_with fail
          refine (p1.out _).mono ?_
          rintro e20 v20 ⟨rfl, hB20⟩
          obtain ⟨hC20, hF20⟩ := bcell hB20
          have hz20 := hB20.size
          (try simp at hz20)
          have hW20 : Hid (Below w.heap.size w v20) := Lib.hid (by have hX := hW19.out; repeat (first | with_reducible exact Below.refl _ _ | with_reducible assumption | ((with_reducible refine blA ?_ ?_); (focus (first | omega | (simp <;> omega)))) | (with_reducible refine blD ?_) | (with_reducible refine blN ?_) | ((with_reducible refine blS ?_ ?_); (focus (first | omega | (simp <;> omega)))) | ((with_reducible refine blT (by assumption) ?_ ?_); (focus (first | omega | (simp <;> omega))))))
          have hwz20 := hW20.out.size
          have hb20_0 : v7.heap.size < v20.heap.size := by omega
          have hc20_0 : v7.heap.size < v20.heap.size + 1 := by omega
          have hb20_1 : v7.heap.size + 1 < v20.heap.size := by omega
          have hc20_1 : v7.heap.size + 1 < v20.heap.size + 1 := by omega
          clear hB20
          go_wp2_with fail
          refine (p2.out _).mono ?_
          rintro e21 v21 ⟨rfl, hB21⟩
          obtain ⟨hC21, hF21⟩ := bcell hB21
          have hz21 := hB21.size
          (try simp at hz21)
          have hW21 : Hid (Below w.heap.size w v21) := Lib.hid (by have hX := hW20.out; repeat (first | with_reducible exact Below.refl _ _ | with_reducible assumption | ((with_reducible refine blA ?_ ?_); (focus (first | omega | (simp <;> omega)))) | (with_reducible refine blD ?_) | (with_reducible refine blN ?_) | ((with_reducible refine blS ?_ ?_); (focus (first | omega | (simp <;> omega)))) | ((with_reducible refine blT (by assumption) ?_ ?_); (focus (first | omega | (simp <;> omega))))))
          have hwz21 := hW21.out.size
          have hb21_0 : v7.heap.size < v21.heap.size := by omega
          have hc21_0 : v7.heap.size < v21.heap.size + 1 := by omega
          have hb21_1 : v7.heap.size + 1 < v21.heap.size := by omega
          have hc21_1 : v7.heap.size + 1 < v21.heap.size + 1 := by omega
          have hb21_2 : v20.heap.size < v21.heap.size := by omega
          have hc21_2 : v20.heap.size < v21.heap.size + 1 := by omega
          clear hB21
          go_wp2_with fail
          refine (q1.out _).mono ?_
          rintro e22 v22 ⟨rfl, hB22⟩
          obtain ⟨hC22, hF22⟩ := bcell hB22
          have hz22 := hB22.size
          (try simp at hz22)
          have hW22 : Hid (Below w.heap.size w v22) := Lib.hid (by have hX := hW21.out; repeat (first | with_reducible exact Below.refl _ _ | with_reducible assumption | ((with_reducible refine blA ?_ ?_); (focus (first | omega | (simp <;> omega)))) | (with_reducible refine blD ?_) | (with_reducible refine blN ?_) | ((with_reducible refine blS ?_ ?_); (focus (first | omega | (simp <;> omega)))) | ((with_reducible refine blT (by assumption) ?_ ?_); (focus (first | omega | (simp <;> omega))))))
          have hwz22 := hW22.out.size
          have hb22_0 : v7.heap.size < v22.heap.size := by omega
          have hc22_0 : v7.heap.size < v22.heap.size + 1 := by omega
          have hb22_1 : v7.heap.size + 1 < v22.heap.size := by omega
          have hc22_1 : v7.heap.size + 1 < v22.heap.size + 1 := by omega
          have hb22_2 : v20.heap.size < v22.heap.size := by omega
          have hc22_2 : v20.heap.size < v22.heap.size + 1 := by omega
          clear hB22
          go_wp2_with fail
          refine (q2.out _).mono ?_
          rintro e23 v23 ⟨rfl, hB23⟩
          obtain ⟨hC23, hF23⟩ := bcell hB23
          have hz23 := hB23.size
          (try simp at hz23)
          have hW23 : Hid (Below w.heap.size w v23) := Lib.hid (by have hX := hW22.out; repeat (first | with_reducible exact Below.refl _ _ | with_reducible assumption | ((with_reducible refine blA ?_ ?_); (focus (first | omega | (simp <;> omega)))) | (with_reducible refine blD ?_) | (with_reducible refine blN ?_) | ((with_reducible refine blS ?_ ?_); (focus (first | omega | (simp <;> omega)))) | ((with_reducible refine blT (by assumption) ?_ ?_); (focus (first | omega | (simp <;> omega))))))
          have hwz23 := hW23.out.size
          have hb23_0 : v7.heap.size < v23.heap.size := by omega
          have hc23_0 : v7.heap.size < v23.heap.size + 1 := by omega
          have hb23_1 : v7.heap.size + 1 < v23.heap.size := by omega
          have hc23_1 : v7.heap.size + 1 < v23.heap.size + 1 := by omega
          have hb23_2 : v20.heap.size < v23.heap.size := by omega
          have hc23_2 : v20.heap.size < v23.heap.size + 1 := by omega
          clear hB23
          go_wp2_with fail
          go_ret
          refine ⟨rfl, ?_⟩
          have hX := hW23.out
          repeat (first | with_reducible exact Below.refl _ _ | with_reducible assumption | ((with_reducible refine blA ?_ ?_); (focus (first | omega | (simp <;> omega)))) | (with_reducible refine blD ?_) | (with_reducible refine blN ?_) | ((with_reducible refine blS ?_ ?_); (focus (first | omega | (simp <;> omega)))) | ((with_reducible refine blT (by assumption) ?_ ?_); (focus (first | omega | (simp <;> omega)))))
        · have hm' : muOk d2 e a b e' a' b' = false := by simpa using hm
          have p1 : Hid (∀ w0, Calls Try.prog 27 #[.int .i64 d2, .agg #[.int .i64 e, .int .i64 a, .int .i64 b], .agg #[.int .i64 e', .int .i64 a', .int .i64 b']] w0 fun en w' => en = .returned (.tuple #[.agg #[.int .i64 0, .int .i64 0, .int .i64 0], .bool false]) ∧ Below w0.heap.size w0 w') := Lib.hid fun w0 => by have h := implIdealProduct_any d2 e a b e' a' b' w0 hd2; simpa only [hm', iz, if_true, if_false, Bool.false_eq_true] using h
          have p2 : Hid (∀ w0, Calls Try.prog 26 #[.int .i64 d2, .agg #[.int .i64 e, .int .i64 a, .int .i64 b], .agg #[.int .i64 e', .int .i64 a', .int .i64 b']] w0 fun en w' => en = .returned (.tuple #[.agg #[.int .i64 0, .int .i64 0, .int .i64 0], .bool false]) ∧ Below w0.heap.size w0 w') := Lib.hid fun w0 => by have h := specIdealProduct_any d2 e a b e' a' b' w0 hd2; simpa only [hm', iz, if_true, if_false, Bool.false_eq_true] using h
          clear hm hm'
          go_wp2_with fail
          refine (p1.out _).mono ?_
          rintro e24 v24 ⟨rfl, hB24⟩
          obtain ⟨hC24, hF24⟩ := bcell hB24
          have hz24 := hB24.size
          (try simp at hz24)
          have hW24 : Hid (Below w.heap.size w v24) := Lib.hid (by have hX := hW19.out; repeat (first | with_reducible exact Below.refl _ _ | with_reducible assumption | ((with_reducible refine blA ?_ ?_); (focus (first | omega | (simp <;> omega)))) | (with_reducible refine blD ?_) | (with_reducible refine blN ?_) | ((with_reducible refine blS ?_ ?_); (focus (first | omega | (simp <;> omega)))) | ((with_reducible refine blT (by assumption) ?_ ?_); (focus (first | omega | (simp <;> omega))))))
          have hwz24 := hW24.out.size
          have hb24_0 : v7.heap.size < v24.heap.size := by omega
          have hc24_0 : v7.heap.size < v24.heap.size + 1 := by omega
          have hb24_1 : v7.heap.size + 1 < v24.heap.size := by omega
          have hc24_1 : v7.heap.size + 1 < v24.heap.size + 1 := by omega
          clear hB24
          go_wp2_with fail
          refine (p2.out _).mono ?_
          rintro e25 v25 ⟨rfl, hB25⟩
          obtain ⟨hC25, hF25⟩ := bcell hB25
          have hz25 := hB25.size
          (try simp at hz25)
          have hW25 : Hid (Below w.heap.size w v25) := Lib.hid (by have hX := hW24.out; repeat (first | with_reducible exact Below.refl _ _ | with_reducible assumption | ((with_reducible refine blA ?_ ?_); (focus (first | omega | (simp <;> omega)))) | (with_reducible refine blD ?_) | (with_reducible refine blN ?_) | ((with_reducible refine blS ?_ ?_); (focus (first | omega | (simp <;> omega)))) | ((with_reducible refine blT (by assumption) ?_ ?_); (focus (first | omega | (simp <;> omega))))))
          have hwz25 := hW25.out.size
          have hb25_0 : v7.heap.size < v25.heap.size := by omega
          have hc25_0 : v7.heap.size < v25.heap.size + 1 := by omega
          have hb25_1 : v7.heap.size + 1 < v25.heap.size := by omega
          have hc25_1 : v7.heap.size + 1 < v25.heap.size + 1 := by omega
          have hb25_2 : v24.heap.size < v25.heap.size := by omega
          have hc25_2 : v24.heap.size < v25.heap.size + 1 := by omega
          clear hB25
          go_wp2_with fail
          go_ret
          refine ⟨rfl, ?_⟩
          have hX := hW25.out
          repeat (first | with_reducible exact Below.refl _ _ | with_reducible assumption | ((with_reducible refine blA ?_ ?_); (focus (first | omega | (simp <;> omega)))) | (with_reducible refine blD ?_) | (with_reducible refine blN ?_) | ((with_reducible refine blS ?_ ?_); (focus (first | omega | (simp <;> omega)))) | ((with_reducible refine blT (by assumption) ?_ ?_); (focus (first | omega | (simp <;> omega)))))
    · have hp' : prOk d u v = false := by simpa using hp
      have g1 : Hid (∀ w0, Calls Try.prog 25 #[.int .i64 d, .int .i64 u, .int .i64 v] w0 fun en w' => en = .returned (.tuple #[.agg #[.int .i64 0, .int .i64 0, .int .i64 0], .bool false]) ∧ Below w0.heap.size w0 w') := Lib.hid fun w0 => by have h := implPrincipalIdeal_any d u v w0 hd; simpa only [hp', iz, if_true, if_false, Bool.false_eq_true] using h
      have g2 : Hid (∀ w0, Calls Try.prog 24 #[.int .i64 d, .int .i64 u, .int .i64 v] w0 fun en w' => en = .returned (.tuple #[.agg #[.int .i64 0, .int .i64 0, .int .i64 0], .bool false]) ∧ Below w0.heap.size w0 w') := Lib.hid fun w0 => by have h := specPrincipalIdeal_any d u v w0 hd; simpa only [hp', iz, if_true, if_false, Bool.false_eq_true] using h
      clear hp hp' hi hid hel hk
      go_wp2_with fail
      refine (h1.out _).mono ?_
      rintro e26 v26 ⟨rfl, hB26⟩
      obtain ⟨hC26, hF26⟩ := bcell hB26
      have hz26 := hB26.size
      (try simp at hz26)
      have hW26 : Hid (Below w.heap.size w v26) := Lib.hid (by have hX := hW0.out; repeat (first | with_reducible exact Below.refl _ _ | with_reducible assumption | ((with_reducible refine blA ?_ ?_); (focus (first | omega | (simp <;> omega)))) | (with_reducible refine blD ?_) | (with_reducible refine blN ?_) | ((with_reducible refine blS ?_ ?_); (focus (first | omega | (simp <;> omega)))) | ((with_reducible refine blT (by assumption) ?_ ?_); (focus (first | omega | (simp <;> omega))))))
      have hwz26 := hW26.out.size
      have hb26_0 : vb.heap.size < v26.heap.size := by omega
      have hc26_0 : vb.heap.size < v26.heap.size + 1 := by omega
      clear hB26
      go_wp2_with fail
      refine (h2.out _).mono ?_
      rintro e27 v27 ⟨rfl, hB27⟩
      obtain ⟨hC27, hF27⟩ := bcell hB27
      have hz27 := hB27.size
      (try simp at hz27)
      have hW27 : Hid (Below w.heap.size w v27) := Lib.hid (by have hX := hW26.out; repeat (first | with_reducible exact Below.refl _ _ | with_reducible assumption | ((with_reducible refine blA ?_ ?_); (focus (first | omega | (simp <;> omega)))) | (with_reducible refine blD ?_) | (with_reducible refine blN ?_) | ((with_reducible refine blS ?_ ?_); (focus (first | omega | (simp <;> omega)))) | ((with_reducible refine blT (by assumption) ?_ ?_); (focus (first | omega | (simp <;> omega))))))
      have hwz27 := hW27.out.size
      have hb27_0 : vb.heap.size < v27.heap.size := by omega
      have hc27_0 : vb.heap.size < v27.heap.size + 1 := by omega
      clear hB27
      go_wp2_with fail
      refine (g1.out _).mono ?_
      rintro e28 v28 ⟨rfl, hB28⟩
      obtain ⟨hC28, hF28⟩ := bcell hB28
      have hz28 := hB28.size
      (try simp at hz28)
      have hW28 : Hid (Below w.heap.size w v28) := Lib.hid (by have hX := hW27.out; repeat (first | with_reducible exact Below.refl _ _ | with_reducible assumption | ((with_reducible refine blA ?_ ?_); (focus (first | omega | (simp <;> omega)))) | (with_reducible refine blD ?_) | (with_reducible refine blN ?_) | ((with_reducible refine blS ?_ ?_); (focus (first | omega | (simp <;> omega)))) | ((with_reducible refine blT (by assumption) ?_ ?_); (focus (first | omega | (simp <;> omega))))))
      have hwz28 := hW28.out.size
      have hb28_0 : vb.heap.size < v28.heap.size := by omega
      have hc28_0 : vb.heap.size < v28.heap.size + 1 := by omega
      clear hB28
      go_wp2_with fail
      refine (g2.out _).mono ?_
      rintro e29 v29 ⟨rfl, hB29⟩
      obtain ⟨hC29, hF29⟩ := bcell hB29
      have hz29 := hB29.size
      (try simp at hz29)
      have hW29 : Hid (Below w.heap.size w v29) := Lib.hid (by have hX := hW28.out; repeat (first | with_reducible exact Below.refl _ _ | with_reducible assumption | ((with_reducible refine blA ?_ ?_); (focus (first | omega | (simp <;> omega)))) | (with_reducible refine blD ?_) | (with_reducible refine blN ?_) | ((with_reducible refine blS ?_ ?_); (focus (first | omega | (simp <;> omega)))) | ((with_reducible refine blT (by assumption) ?_ ?_); (focus (first | omega | (simp <;> omega))))))
      have hwz29 := hW29.out.size
      have hb29_0 : vb.heap.size < v29.heap.size := by omega
      have hc29_0 : vb.heap.size < v29.heap.size + 1 := by omega
      have hb29_1 : v28.heap.size < v29.heap.size := by omega
      have hc29_1 : v28.heap.size < v29.heap.size + 1 := by omega
      clear hB29
      go_wp2_with fail
      refine (drawIdealSum_any a1 len1 cap1 _ (hc1.up (show w.heap.size ≤ _ by first | omega | (simp; omega)) (show Below w.heap.size w _ by have hX := hW29.out; repeat (first | with_reducible exact Below.refl _ _ | with_reducible assumption | ((with_reducible refine blA ?_ ?_); (focus (first | omega | (simp <;> omega)))) | (with_reducible refine blD ?_) | (with_reducible refine blN ?_) | ((with_reducible refine blS ?_ ?_); (focus (first | omega | (simp <;> omega)))) | ((with_reducible refine blT (by assumption) ?_ ?_); (focus (first | omega | (simp <;> omega))))))) (by omega)).mono ?_
      rintro e30 v30 ⟨⟨d2, ⟨e, a, b⟩, ⟨e', a', b'⟩, rfl, hd2, hx2, hy2⟩, hB30⟩
      have hz30 := hB30.size
      (try simp at hz30)
      have hW30 : Hid (Below w.heap.size w v30) := Lib.hid (by have hX := hW29.out; repeat (first | with_reducible exact Below.refl _ _ | with_reducible assumption | ((with_reducible refine blA ?_ ?_); (focus (first | omega | (simp <;> omega)))) | (with_reducible refine blD ?_) | (with_reducible refine blN ?_) | ((with_reducible refine blS ?_ ?_); (focus (first | omega | (simp <;> omega)))) | ((with_reducible refine blT (by assumption) ?_ ?_); (focus (first | omega | (simp <;> omega))))))
      have hwz30 := hW30.out.size
      clear hB30 hx2 hy2
      simp only at *
      by_cases hs : smOk d2 e a b e' a' b' = true
      · obtain ⟨m1, m2⟩ := sum_contains hs
        have m3 := smOk_both hs
        have c1 : Hid (∀ w0, Calls Try.prog 22 #[.int .i64 d2, .agg #[.int .i64 e, .int .i64 a, .int .i64 b], .agg #[.int .i64 e', .int .i64 a', .int .i64 b']] w0 fun en w' => en = .returned (.tuple #[.agg #[.int .i64 (lE (sumL e a b e' a' b')), .int .i64 (lA (sumL e a b e' a' b')), .int .i64 (lB (sumL e a b e' a' b'))], .bool true]) ∧ Below w0.heap.size w0 w') := Lib.hid fun w0 => by have h := implIdealSum_any d2 e a b e' a' b' w0 hd2; simpa only [hs, iz, if_true, if_false, Bool.false_eq_true] using h
        have c2 : Hid (∀ w0, Calls Try.prog 21 #[.int .i64 d2, .agg #[.int .i64 e, .int .i64 a, .int .i64 b], .agg #[.int .i64 e', .int .i64 a', .int .i64 b']] w0 fun en w' => en = .returned (.tuple #[.agg #[.int .i64 (lE (sumL e a b e' a' b')), .int .i64 (lA (sumL e a b e' a' b')), .int .i64 (lB (sumL e a b e' a' b'))], .bool true]) ∧ Below w0.heap.size w0 w') := Lib.hid fun w0 => by have h := specIdealSum_any d2 e a b e' a' b' w0 hd2; simpa only [hs, iz, if_true, if_false, Bool.false_eq_true] using h
        have r1 : Hid (∀ w0, Calls Try.prog 18 #[.int .i64 d2, .agg #[.int .i64 (lE (sumL e a b e' a' b')), .int .i64 (lA (sumL e a b e' a' b')), .int .i64 (lB (sumL e a b e' a' b'))], .agg #[.int .i64 e, .int .i64 a, .int .i64 b]] w0 fun en w' => en = .returned (.tuple #[.bool true, .bool true]) ∧ Below w0.heap.size w0 w') := Lib.hid fun w0 => by have h := implContainsIdeal_any d2 (lE (sumL e a b e' a' b')) (lA (sumL e a b e' a' b')) (lB (sumL e a b e' a' b')) e a b w0 hd2; simpa only [m1, m3.1, m3.2.2, Bool.and_self] using h
        have r2 : Hid (∀ w0, Calls Try.prog 18 #[.int .i64 d2, .agg #[.int .i64 (lE (sumL e a b e' a' b')), .int .i64 (lA (sumL e a b e' a' b')), .int .i64 (lB (sumL e a b e' a' b'))], .agg #[.int .i64 e', .int .i64 a', .int .i64 b']] w0 fun en w' => en = .returned (.tuple #[.bool true, .bool true]) ∧ Below w0.heap.size w0 w') := Lib.hid fun w0 => by have h := implContainsIdeal_any d2 (lE (sumL e a b e' a' b')) (lA (sumL e a b e' a' b')) (lB (sumL e a b e' a' b')) e' a' b' w0 hd2; simpa only [m2, m3.2.1, m3.2.2, Bool.and_self] using h
        clear m1 m2 m3 hs
        generalize lE (sumL e a b e' a' b') = E2 at *
        generalize lA (sumL e a b e' a' b') = A2 at *
        generalize lB (sumL e a b e' a' b') = B2 at *
        go_wp2_with fail
        refine (c1.out _).mono ?_
        rintro e31 v31 ⟨rfl, hB31⟩
        obtain ⟨hC31, hF31⟩ := bcell hB31
        have hz31 := hB31.size
        (try simp at hz31)
        have hW31 : Hid (Below w.heap.size w v31) := Lib.hid (by have hX := hW30.out; repeat (first | with_reducible exact Below.refl _ _ | with_reducible assumption | ((with_reducible refine blA ?_ ?_); (focus (first | omega | (simp <;> omega)))) | (with_reducible refine blD ?_) | (with_reducible refine blN ?_) | ((with_reducible refine blS ?_ ?_); (focus (first | omega | (simp <;> omega)))) | ((with_reducible refine blT (by assumption) ?_ ?_); (focus (first | omega | (simp <;> omega))))))
        have hwz31 := hW31.out.size
        have hb31_0 : v30.heap.size < v31.heap.size := by omega
        have hc31_0 : v30.heap.size < v31.heap.size + 1 := by omega
        have hb31_1 : v30.heap.size + 1 < v31.heap.size := by omega
        have hc31_1 : v30.heap.size + 1 < v31.heap.size + 1 := by omega
        clear hB31
        go_wp2_with fail
        refine (c2.out _).mono ?_
        rintro e32 v32 ⟨rfl, hB32⟩
        obtain ⟨hC32, hF32⟩ := bcell hB32
        have hz32 := hB32.size
        (try simp at hz32)
        have hW32 : Hid (Below w.heap.size w v32) := Lib.hid (by have hX := hW31.out; repeat (first | with_reducible exact Below.refl _ _ | with_reducible assumption | ((with_reducible refine blA ?_ ?_); (focus (first | omega | (simp <;> omega)))) | (with_reducible refine blD ?_) | (with_reducible refine blN ?_) | ((with_reducible refine blS ?_ ?_); (focus (first | omega | (simp <;> omega)))) | ((with_reducible refine blT (by assumption) ?_ ?_); (focus (first | omega | (simp <;> omega))))))
        have hwz32 := hW32.out.size
        have hb32_0 : v30.heap.size < v32.heap.size := by omega
        have hc32_0 : v30.heap.size < v32.heap.size + 1 := by omega
        have hb32_1 : v30.heap.size + 1 < v32.heap.size := by omega
        have hc32_1 : v30.heap.size + 1 < v32.heap.size + 1 := by omega
        have hb32_2 : v31.heap.size < v32.heap.size := by omega
        have hc32_2 : v31.heap.size < v32.heap.size + 1 := by omega
        clear hB32
        go_wp2_with fail
        refine (r1.out _).mono ?_
        rintro e33 v33 ⟨rfl, hB33⟩
        obtain ⟨hC33, hF33⟩ := bcell hB33
        have hz33 := hB33.size
        (try simp at hz33)
        have hW33 : Hid (Below w.heap.size w v33) := Lib.hid (by have hX := hW32.out; repeat (first | with_reducible exact Below.refl _ _ | with_reducible assumption | ((with_reducible refine blA ?_ ?_); (focus (first | omega | (simp <;> omega)))) | (with_reducible refine blD ?_) | (with_reducible refine blN ?_) | ((with_reducible refine blS ?_ ?_); (focus (first | omega | (simp <;> omega)))) | ((with_reducible refine blT (by assumption) ?_ ?_); (focus (first | omega | (simp <;> omega))))))
        have hwz33 := hW33.out.size
        have hb33_0 : v30.heap.size < v33.heap.size := by omega
        have hc33_0 : v30.heap.size < v33.heap.size + 1 := by omega
        have hb33_1 : v30.heap.size + 1 < v33.heap.size := by omega
        have hc33_1 : v30.heap.size + 1 < v33.heap.size + 1 := by omega
        have hb33_2 : v31.heap.size < v33.heap.size := by omega
        have hc33_2 : v31.heap.size < v33.heap.size + 1 := by omega
        clear hB33
        go_wp2_with fail
        refine (r2.out _).mono ?_
        rintro e34 v34 ⟨rfl, hB34⟩
        obtain ⟨hC34, hF34⟩ := bcell hB34
        have hz34 := hB34.size
        (try simp at hz34)
        have hW34 : Hid (Below w.heap.size w v34) := Lib.hid (by have hX := hW33.out; repeat (first | with_reducible exact Below.refl _ _ | with_reducible assumption | ((with_reducible refine blA ?_ ?_); (focus (first | omega | (simp <;> omega)))) | (with_reducible refine blD ?_) | (with_reducible refine blN ?_) | ((with_reducible refine blS ?_ ?_); (focus (first | omega | (simp <;> omega)))) | ((with_reducible refine blT (by assumption) ?_ ?_); (focus (first | omega | (simp <;> omega))))))
        have hwz34 := hW34.out.size
        have hb34_0 : v30.heap.size < v34.heap.size := by omega
        have hc34_0 : v30.heap.size < v34.heap.size + 1 := by omega
        have hb34_1 : v30.heap.size + 1 < v34.heap.size := by omega
        have hc34_1 : v30.heap.size + 1 < v34.heap.size + 1 := by omega
        have hb34_2 : v31.heap.size < v34.heap.size := by omega
        have hc34_2 : v31.heap.size < v34.heap.size + 1 := by omega
        clear hB34
        by_cases hm : muOk d2 e a b e' a' b' = true
        · obtain ⟨m1, m2⟩ := mul_contains hm
          have m3 := muOk_both hm
          have p1 : Hid (∀ w0, Calls Try.prog 27 #[.int .i64 d2, .agg #[.int .i64 e, .int .i64 a, .int .i64 b], .agg #[.int .i64 e', .int .i64 a', .int .i64 b']] w0 fun en w' => en = .returned (.tuple #[.agg #[.int .i64 (muE d2 e a b e' a' b'), .int .i64 (lA (mulL d2 a b a' b')), .int .i64 (lB (mulL d2 a b a' b'))], .bool true]) ∧ Below w0.heap.size w0 w') := Lib.hid fun w0 => by have h := implIdealProduct_any d2 e a b e' a' b' w0 hd2; simpa only [hm, iz, if_true, if_false, Bool.false_eq_true] using h
          have p2 : Hid (∀ w0, Calls Try.prog 26 #[.int .i64 d2, .agg #[.int .i64 e, .int .i64 a, .int .i64 b], .agg #[.int .i64 e', .int .i64 a', .int .i64 b']] w0 fun en w' => en = .returned (.tuple #[.agg #[.int .i64 (muE d2 e a b e' a' b'), .int .i64 (lA (mulL d2 a b a' b')), .int .i64 (lB (mulL d2 a b a' b'))], .bool true]) ∧ Below w0.heap.size w0 w') := Lib.hid fun w0 => by have h := specIdealProduct_any d2 e a b e' a' b' w0 hd2; simpa only [hm, iz, if_true, if_false, Bool.false_eq_true] using h
          have q1 : Hid (∀ w0, Calls Try.prog 18 #[.int .i64 d2, .agg #[.int .i64 e, .int .i64 a, .int .i64 b], .agg #[.int .i64 (muE d2 e a b e' a' b'), .int .i64 (lA (mulL d2 a b a' b')), .int .i64 (lB (mulL d2 a b a' b'))]] w0 fun en w' => en = .returned (.tuple #[.bool true, .bool true]) ∧ Below w0.heap.size w0 w') := Lib.hid fun w0 => by have h := implContainsIdeal_any d2 e a b (muE d2 e a b e' a' b') (lA (mulL d2 a b a' b')) (lB (mulL d2 a b a' b')) w0 hd2; simpa only [m1, m3.1, m3.2.2, Bool.and_self] using h
          have q2 : Hid (∀ w0, Calls Try.prog 18 #[.int .i64 d2, .agg #[.int .i64 e', .int .i64 a', .int .i64 b'], .agg #[.int .i64 (muE d2 e a b e' a' b'), .int .i64 (lA (mulL d2 a b a' b')), .int .i64 (lB (mulL d2 a b a' b'))]] w0 fun en w' => en = .returned (.tuple #[.bool true, .bool true]) ∧ Below w0.heap.size w0 w') := Lib.hid fun w0 => by have h := implContainsIdeal_any d2 e' a' b' (muE d2 e a b e' a' b') (lA (mulL d2 a b a' b')) (lB (mulL d2 a b a' b')) w0 hd2; simpa only [m2, m3.2.1, m3.2.2, Bool.and_self] using h
          clear m1 m2 m3 hm
          generalize muE d2 e a b e' a' b' = E3 at *
          generalize lA (mulL d2 a b a' b') = A3 at *
          generalize lB (mulL d2 a b a' b') = B3 at *
          go_wp2_with fail
          refine (p1.out _).mono ?_
          rintro e35 v35 ⟨rfl, hB35⟩
          obtain ⟨hC35, hF35⟩ := bcell hB35
          have hz35 := hB35.size
          (try simp at hz35)
          have hW35 : Hid (Below w.heap.size w v35) := Lib.hid (by have hX := hW34.out; repeat (first | with_reducible exact Below.refl _ _ | with_reducible assumption | ((with_reducible refine blA ?_ ?_); (focus (first | omega | (simp <;> omega)))) | (with_reducible refine blD ?_) | (with_reducible refine blN ?_) | ((with_reducible refine blS ?_ ?_); (focus (first | omega | (simp <;> omega)))) | ((with_reducible refine blT (by assumption) ?_ ?_); (focus (first | omega | (simp <;> omega))))))
          have hwz35 := hW35.out.size
          have hb35_0 : v30.heap.size < v35.heap.size := by omega
          have hc35_0 : v30.heap.size < v35.heap.size + 1 := by omega
          have hb35_1 : v30.heap.size + 1 < v35.heap.size := by omega
          have hc35_1 : v30.heap.size + 1 < v35.heap.size + 1 := by omega
          clear hB35
          go_wp2_with fail
          refine (p2.out _).mono ?_
          rintro e36 v36 ⟨rfl, hB36⟩
          obtain ⟨hC36, hF36⟩ := bcell hB36
          have hz36 := hB36.size
          (try simp at hz36)
          have hW36 : Hid (Below w.heap.size w v36) := Lib.hid (by have hX := hW35.out; repeat (first | with_reducible exact Below.refl _ _ | with_reducible assumption | ((with_reducible refine blA ?_ ?_); (focus (first | omega | (simp <;> omega)))) | (with_reducible refine blD ?_) | (with_reducible refine blN ?_) | ((with_reducible refine blS ?_ ?_); (focus (first | omega | (simp <;> omega)))) | ((with_reducible refine blT (by assumption) ?_ ?_); (focus (first | omega | (simp <;> omega))))))
          have hwz36 := hW36.out.size
          have hb36_0 : v30.heap.size < v36.heap.size := by omega
          have hc36_0 : v30.heap.size < v36.heap.size + 1 := by omega
          have hb36_1 : v30.heap.size + 1 < v36.heap.size := by omega
          have hc36_1 : v30.heap.size + 1 < v36.heap.size + 1 := by omega
          have hb36_2 : v35.heap.size < v36.heap.size := by omega
          have hc36_2 : v35.heap.size < v36.heap.size + 1 := by omega
          clear hB36
          go_wp2_with fail
          refine (q1.out _).mono ?_
          rintro e37 v37 ⟨rfl, hB37⟩
          obtain ⟨hC37, hF37⟩ := bcell hB37
          have hz37 := hB37.size
          (try simp at hz37)
          have hW37 : Hid (Below w.heap.size w v37) := Lib.hid (by have hX := hW36.out; repeat (first | with_reducible exact Below.refl _ _ | with_reducible assumption | ((with_reducible refine blA ?_ ?_); (focus (first | omega | (simp <;> omega)))) | (with_reducible refine blD ?_) | (with_reducible refine blN ?_) | ((with_reducible refine blS ?_ ?_); (focus (first | omega | (simp <;> omega)))) | ((with_reducible refine blT (by assumption) ?_ ?_); (focus (first | omega | (simp <;> omega))))))
          have hwz37 := hW37.out.size
          have hb37_0 : v30.heap.size < v37.heap.size := by omega
          have hc37_0 : v30.heap.size < v37.heap.size + 1 := by omega
          have hb37_1 : v30.heap.size + 1 < v37.heap.size := by omega
          have hc37_1 : v30.heap.size + 1 < v37.heap.size + 1 := by omega
          have hb37_2 : v35.heap.size < v37.heap.size := by omega
          have hc37_2 : v35.heap.size < v37.heap.size + 1 := by omega
          clear hB37
          go_wp2_with fail
          refine (q2.out _).mono ?_
          rintro e38 v38 ⟨rfl, hB38⟩
          obtain ⟨hC38, hF38⟩ := bcell hB38
          have hz38 := hB38.size
          (try simp at hz38)
          have hW38 : Hid (Below w.heap.size w v38) := Lib.hid (by have hX := hW37.out; repeat (first | with_reducible exact Below.refl _ _ | with_reducible assumption | ((with_reducible refine blA ?_ ?_); (focus (first | omega | (simp <;> omega)))) | (with_reducible refine blD ?_) | (with_reducible refine blN ?_) | ((with_reducible refine blS ?_ ?_); (focus (first | omega | (simp <;> omega)))) | ((with_reducible refine blT (by assumption) ?_ ?_); (focus (first | omega | (simp <;> omega))))))
          have hwz38 := hW38.out.size
          have hb38_0 : v30.heap.size < v38.heap.size := by omega
          have hc38_0 : v30.heap.size < v38.heap.size + 1 := by omega
          have hb38_1 : v30.heap.size + 1 < v38.heap.size := by omega
          have hc38_1 : v30.heap.size + 1 < v38.heap.size + 1 := by omega
          have hb38_2 : v35.heap.size < v38.heap.size := by omega
          have hc38_2 : v35.heap.size < v38.heap.size + 1 := by omega
          clear hB38
          go_wp2_with fail
          go_ret
          refine ⟨rfl, ?_⟩
          have hX := hW38.out
          repeat (first | with_reducible exact Below.refl _ _ | with_reducible assumption | ((with_reducible refine blA ?_ ?_); (focus (first | omega | (simp <;> omega)))) | (with_reducible refine blD ?_) | (with_reducible refine blN ?_) | ((with_reducible refine blS ?_ ?_); (focus (first | omega | (simp <;> omega)))) | ((with_reducible refine blT (by assumption) ?_ ?_); (focus (first | omega | (simp <;> omega)))))
        · have hm' : muOk d2 e a b e' a' b' = false := by simpa using hm
          have p1 : Hid (∀ w0, Calls Try.prog 27 #[.int .i64 d2, .agg #[.int .i64 e, .int .i64 a, .int .i64 b], .agg #[.int .i64 e', .int .i64 a', .int .i64 b']] w0 fun en w' => en = .returned (.tuple #[.agg #[.int .i64 0, .int .i64 0, .int .i64 0], .bool false]) ∧ Below w0.heap.size w0 w') := Lib.hid fun w0 => by have h := implIdealProduct_any d2 e a b e' a' b' w0 hd2; simpa only [hm', iz, if_true, if_false, Bool.false_eq_true] using h
          have p2 : Hid (∀ w0, Calls Try.prog 26 #[.int .i64 d2, .agg #[.int .i64 e, .int .i64 a, .int .i64 b], .agg #[.int .i64 e', .int .i64 a', .int .i64 b']] w0 fun en w' => en = .returned (.tuple #[.agg #[.int .i64 0, .int .i64 0, .int .i64 0], .bool false]) ∧ Below w0.heap.size w0 w') := Lib.hid fun w0 => by have h := specIdealProduct_any d2 e a b e' a' b' w0 hd2; simpa only [hm', iz, if_true, if_false, Bool.false_eq_true] using h
          clear hm hm'
          go_wp2_with fail
          refine (p1.out _).mono ?_
          rintro e39 v39 ⟨rfl, hB39⟩
          obtain ⟨hC39, hF39⟩ := bcell hB39
          have hz39 := hB39.size
          (try simp at hz39)
          have hW39 : Hid (Below w.heap.size w v39) := Lib.hid (by have hX := hW34.out; repeat (first | with_reducible exact Below.refl _ _ | with_reducible assumption | ((with_reducible refine blA ?_ ?_); (focus (first | omega | (simp <;> omega)))) | (with_reducible refine blD ?_) | (with_reducible refine blN ?_) | ((with_reducible refine blS ?_ ?_); (focus (first | omega | (simp <;> omega)))) | ((with_reducible refine blT (by assumption) ?_ ?_); (focus (first | omega | (simp <;> omega))))))
          have hwz39 := hW39.out.size
          have hb39_0 : v30.heap.size < v39.heap.size := by omega
          have hc39_0 : v30.heap.size < v39.heap.size + 1 := by omega
          have hb39_1 : v30.heap.size + 1 < v39.heap.size := by omega
          have hc39_1 : v30.heap.size + 1 < v39.heap.size + 1 := by omega
          clear hB39
          go_wp2_with fail
          refine (p2.out _).mono ?_
          rintro e40 v40 ⟨rfl, hB40⟩
          obtain ⟨hC40, hF40⟩ := bcell hB40
          have hz40 := hB40.size
          (try simp at hz40)
          have hW40 : Hid (Below w.heap.size w v40) := Lib.hid (by have hX := hW39.out; repeat (first | with_reducible exact Below.refl _ _ | with_reducible assumption | ((with_reducible refine blA ?_ ?_); (focus (first | omega | (simp <;> omega)))) | (with_reducible refine blD ?_) | (with_reducible refine blN ?_) | ((with_reducible refine blS ?_ ?_); (focus (first | omega | (simp <;> omega)))) | ((with_reducible refine blT (by assumption) ?_ ?_); (focus (first | omega | (simp <;> omega))))))
          have hwz40 := hW40.out.size
          have hb40_0 : v30.heap.size < v40.heap.size := by omega
          have hc40_0 : v30.heap.size < v40.heap.size + 1 := by omega
          have hb40_1 : v30.heap.size + 1 < v40.heap.size := by omega
          have hc40_1 : v30.heap.size + 1 < v40.heap.size + 1 := by omega
          have hb40_2 : v39.heap.size < v40.heap.size := by omega
          have hc40_2 : v39.heap.size < v40.heap.size + 1 := by omega
          clear hB40
          go_wp2_with fail
          go_ret
          refine ⟨rfl, ?_⟩
          have hX := hW40.out
          repeat (first | with_reducible exact Below.refl _ _ | with_reducible assumption | ((with_reducible refine blA ?_ ?_); (focus (first | omega | (simp <;> omega)))) | (with_reducible refine blD ?_) | (with_reducible refine blN ?_) | ((with_reducible refine blS ?_ ?_); (focus (first | omega | (simp <;> omega)))) | ((with_reducible refine blT (by assumption) ?_ ?_); (focus (first | omega | (simp <;> omega)))))
      · have hs' : smOk d2 e a b e' a' b' = false := by simpa using hs
        have c1 : Hid (∀ w0, Calls Try.prog 22 #[.int .i64 d2, .agg #[.int .i64 e, .int .i64 a, .int .i64 b], .agg #[.int .i64 e', .int .i64 a', .int .i64 b']] w0 fun en w' => en = .returned (.tuple #[.agg #[.int .i64 0, .int .i64 0, .int .i64 0], .bool false]) ∧ Below w0.heap.size w0 w') := Lib.hid fun w0 => by have h := implIdealSum_any d2 e a b e' a' b' w0 hd2; simpa only [hs', iz, if_true, if_false, Bool.false_eq_true] using h
        have c2 : Hid (∀ w0, Calls Try.prog 21 #[.int .i64 d2, .agg #[.int .i64 e, .int .i64 a, .int .i64 b], .agg #[.int .i64 e', .int .i64 a', .int .i64 b']] w0 fun en w' => en = .returned (.tuple #[.agg #[.int .i64 0, .int .i64 0, .int .i64 0], .bool false]) ∧ Below w0.heap.size w0 w') := Lib.hid fun w0 => by have h := specIdealSum_any d2 e a b e' a' b' w0 hd2; simpa only [hs', iz, if_true, if_false, Bool.false_eq_true] using h
        clear hs hs'
        go_wp2_with fail
        refine (c1.out _).mono ?_
        rintro e41 v41 ⟨rfl, hB41⟩
        obtain ⟨hC41, hF41⟩ := bcell hB41
        have hz41 := hB41.size
        (try simp at hz41)
        have hW41 : Hid (Below w.heap.size w v41) := Lib.hid (by have hX := hW30.out; repeat (first | with_reducible exact Below.refl _ _ | with_reducible assumption | ((with_reducible refine blA ?_ ?_); (focus (first | omega | (simp <;> omega)))) | (with_reducible refine blD ?_) | (with_reducible refine blN ?_) | ((with_reducible refine blS ?_ ?_); (focus (first | omega | (simp <;> omega)))) | ((with_reducible refine blT (by assumption) ?_ ?_); (focus (first | omega | (simp <;> omega))))))
        have hwz41 := hW41.out.size
        have hb41_0 : v30.heap.size < v41.heap.size := by omega
        have hc41_0 : v30.heap.size < v41.heap.size + 1 := by omega
        have hb41_1 : v30.heap.size + 1 < v41.heap.size := by omega
        have hc41_1 : v30.heap.size + 1 < v41.heap.size + 1 := by omega
        clear hB41
        go_wp2_with fail
        refine (c2.out _).mono ?_
        rintro e42 v42 ⟨rfl, hB42⟩
        obtain ⟨hC42, hF42⟩ := bcell hB42
        have hz42 := hB42.size
        (try simp at hz42)
        have hW42 : Hid (Below w.heap.size w v42) := Lib.hid (by have hX := hW41.out; repeat (first | with_reducible exact Below.refl _ _ | with_reducible assumption | ((with_reducible refine blA ?_ ?_); (focus (first | omega | (simp <;> omega)))) | (with_reducible refine blD ?_) | (with_reducible refine blN ?_) | ((with_reducible refine blS ?_ ?_); (focus (first | omega | (simp <;> omega)))) | ((with_reducible refine blT (by assumption) ?_ ?_); (focus (first | omega | (simp <;> omega))))))
        have hwz42 := hW42.out.size
        have hb42_0 : v30.heap.size < v42.heap.size := by omega
        have hc42_0 : v30.heap.size < v42.heap.size + 1 := by omega
        have hb42_1 : v30.heap.size + 1 < v42.heap.size := by omega
        have hc42_1 : v30.heap.size + 1 < v42.heap.size + 1 := by omega
        have hb42_2 : v41.heap.size < v42.heap.size := by omega
        have hc42_2 : v41.heap.size < v42.heap.size + 1 := by omega
        clear hB42
        by_cases hm : muOk d2 e a b e' a' b' = true
        · obtain ⟨m1, m2⟩ := mul_contains hm
          have m3 := muOk_both hm
          have p1 : Hid (∀ w0, Calls Try.prog 27 #[.int .i64 d2, .agg #[.int .i64 e, .int .i64 a, .int .i64 b], .agg #[.int .i64 e', .int .i64 a', .int .i64 b']] w0 fun en w' => en = .returned (.tuple #[.agg #[.int .i64 (muE d2 e a b e' a' b'), .int .i64 (lA (mulL d2 a b a' b')), .int .i64 (lB (mulL d2 a b a' b'))], .bool true]) ∧ Below w0.heap.size w0 w') := Lib.hid fun w0 => by have h := implIdealProduct_any d2 e a b e' a' b' w0 hd2; simpa only [hm, iz, if_true, if_false, Bool.false_eq_true] using h
          have p2 : Hid (∀ w0, Calls Try.prog 26 #[.int .i64 d2, .agg #[.int .i64 e, .int .i64 a, .int .i64 b], .agg #[.int .i64 e', .int .i64 a', .int .i64 b']] w0 fun en w' => en = .returned (.tuple #[.agg #[.int .i64 (muE d2 e a b e' a' b'), .int .i64 (lA (mulL d2 a b a' b')), .int .i64 (lB (mulL d2 a b a' b'))], .bool true]) ∧ Below w0.heap.size w0 w') := Lib.hid fun w0 => by have h := specIdealProduct_any d2 e a b e' a' b' w0 hd2; simpa only [hm, iz, if_true, if_false, Bool.false_eq_true] using h
          have q1 : Hid (∀ w0, Calls Try.prog 18 #[.int .i64 d2, .agg #[.int .i64 e, .int .i64 a, .int .i64 b], .agg #[.int .i64 (muE d2 e a b e' a' b'), .int .i64 (lA (mulL d2 a b a' b')), .int .i64 (lB (mulL d2 a b a' b'))]] w0 fun en w' => en = .returned (.tuple #[.bool true, .bool true]) ∧ Below w0.heap.size w0 w') := Lib.hid fun w0 => by have h := implContainsIdeal_any d2 e a b (muE d2 e a b e' a' b') (lA (mulL d2 a b a' b')) (lB (mulL d2 a b a' b')) w0 hd2; simpa only [m1, m3.1, m3.2.2, Bool.and_self] using h
          have q2 : Hid (∀ w0, Calls Try.prog 18 #[.int .i64 d2, .agg #[.int .i64 e', .int .i64 a', .int .i64 b'], .agg #[.int .i64 (muE d2 e a b e' a' b'), .int .i64 (lA (mulL d2 a b a' b')), .int .i64 (lB (mulL d2 a b a' b'))]] w0 fun en w' => en = .returned (.tuple #[.bool true, .bool true]) ∧ Below w0.heap.size w0 w') := Lib.hid fun w0 => by have h := implContainsIdeal_any d2 e' a' b' (muE d2 e a b e' a' b') (lA (mulL d2 a b a' b')) (lB (mulL d2 a b a' b')) w0 hd2; simpa only [m2, m3.2.1, m3.2.2, Bool.and_self] using h
          clear m1 m2 m3 hm
          generalize muE d2 e a b e' a' b' = E3 at *
          generalize lA (mulL d2 a b a' b') = A3 at *
          generalize lB (mulL d2 a b a' b') = B3 at *
          go_wp2_with fail
          refine (p1.out _).mono ?_
          rintro e43 v43 ⟨rfl, hB43⟩
          obtain ⟨hC43, hF43⟩ := bcell hB43
          have hz43 := hB43.size
          (try simp at hz43)
          have hW43 : Hid (Below w.heap.size w v43) := Lib.hid (by have hX := hW42.out; repeat (first | with_reducible exact Below.refl _ _ | with_reducible assumption | ((with_reducible refine blA ?_ ?_); (focus (first | omega | (simp <;> omega)))) | (with_reducible refine blD ?_) | (with_reducible refine blN ?_) | ((with_reducible refine blS ?_ ?_); (focus (first | omega | (simp <;> omega)))) | ((with_reducible refine blT (by assumption) ?_ ?_); (focus (first | omega | (simp <;> omega))))))
          have hwz43 := hW43.out.size
          have hb43_0 : v30.heap.size < v43.heap.size := by omega
          have hc43_0 : v30.heap.size < v43.heap.size + 1 := by omega
          have hb43_1 : v30.heap.size + 1 < v43.heap.size := by omega
          have hc43_1 : v30.heap.size + 1 < v43.heap.size + 1 := by omega
          clear hB43
          go_wp2_with fail
          refine (p2.out _).mono ?_
          rintro e44 v44 ⟨rfl, hB44⟩
          obtain ⟨hC44, hF44⟩ := bcell hB44
          have hz44 := hB44.size
          (try simp at hz44)
          have hW44 : Hid (Below w.heap.size w v44) := Lib.hid (by have hX := hW43.out; repeat (first | with_reducible exact Below.refl _ _ | with_reducible assumption | ((with_reducible refine blA ?_ ?_); (focus (first | omega | (simp <;> omega)))) | (with_reducible refine blD ?_) | (with_reducible refine blN ?_) | ((with_reducible refine blS ?_ ?_); (focus (first | omega | (simp <;> omega)))) | ((with_reducible refine blT (by assumption) ?_ ?_); (focus (first | omega | (simp <;> omega))))))
          have hwz44 := hW44.out.size
          have hb44_0 : v30.heap.size < v44.heap.size := by omega
          have hc44_0 : v30.heap.size < v44.heap.size + 1 := by omega
          have hb44_1 : v30.heap.size + 1 < v44.heap.size := by omega
          have hc44_1 : v30.heap.size + 1 < v44.heap.size + 1 := by omega
          have hb44_2 : v43.heap.size < v44.heap.size := by omega
          have hc44_2 : v43.heap.size < v44.heap.size + 1 := by omega
          clear hB44
          go_wp2_with fail
          refine (q1.out _).mono ?_
          rintro e45 v45 ⟨rfl, hB45⟩
          obtain ⟨hC45, hF45⟩ := bcell hB45
          have hz45 := hB45.size
          (try simp at hz45)
          have hW45 : Hid (Below w.heap.size w v45) := Lib.hid (by have hX := hW44.out; repeat (first | with_reducible exact Below.refl _ _ | with_reducible assumption | ((with_reducible refine blA ?_ ?_); (focus (first | omega | (simp <;> omega)))) | (with_reducible refine blD ?_) | (with_reducible refine blN ?_) | ((with_reducible refine blS ?_ ?_); (focus (first | omega | (simp <;> omega)))) | ((with_reducible refine blT (by assumption) ?_ ?_); (focus (first | omega | (simp <;> omega))))))
          have hwz45 := hW45.out.size
          have hb45_0 : v30.heap.size < v45.heap.size := by omega
          have hc45_0 : v30.heap.size < v45.heap.size + 1 := by omega
          have hb45_1 : v30.heap.size + 1 < v45.heap.size := by omega
          have hc45_1 : v30.heap.size + 1 < v45.heap.size + 1 := by omega
          have hb45_2 : v43.heap.size < v45.heap.size := by omega
          have hc45_2 : v43.heap.size < v45.heap.size + 1 := by omega
          clear hB45
          go_wp2_with fail
          refine (q2.out _).mono ?_
          rintro e46 v46 ⟨rfl, hB46⟩
          obtain ⟨hC46, hF46⟩ := bcell hB46
          have hz46 := hB46.size
          (try simp at hz46)
          have hW46 : Hid (Below w.heap.size w v46) := Lib.hid (by have hX := hW45.out; repeat (first | with_reducible exact Below.refl _ _ | with_reducible assumption | ((with_reducible refine blA ?_ ?_); (focus (first | omega | (simp <;> omega)))) | (with_reducible refine blD ?_) | (with_reducible refine blN ?_) | ((with_reducible refine blS ?_ ?_); (focus (first | omega | (simp <;> omega)))) | ((with_reducible refine blT (by assumption) ?_ ?_); (focus (first | omega | (simp <;> omega))))))
          have hwz46 := hW46.out.size
          have hb46_0 : v30.heap.size < v46.heap.size := by omega
          have hc46_0 : v30.heap.size < v46.heap.size + 1 := by omega
          have hb46_1 : v30.heap.size + 1 < v46.heap.size := by omega
          have hc46_1 : v30.heap.size + 1 < v46.heap.size + 1 := by omega
          have hb46_2 : v43.heap.size < v46.heap.size := by omega
          have hc46_2 : v43.heap.size < v46.heap.size + 1 := by omega
          clear hB46
          go_wp2_with fail
          go_ret
          refine ⟨rfl, ?_⟩
          have hX := hW46.out
          repeat (first | with_reducible exact Below.refl _ _ | with_reducible assumption | ((with_reducible refine blA ?_ ?_); (focus (first | omega | (simp <;> omega)))) | (with_reducible refine blD ?_) | (with_reducible refine blN ?_) | ((with_reducible refine blS ?_ ?_); (focus (first | omega | (simp <;> omega)))) | ((with_reducible refine blT (by assumption) ?_ ?_); (focus (first | omega | (simp <;> omega)))))
        · have hm' : muOk d2 e a b e' a' b' = false := by simpa using hm
          have p1 : Hid (∀ w0, Calls Try.prog 27 #[.int .i64 d2, .agg #[.int .i64 e, .int .i64 a, .int .i64 b], .agg #[.int .i64 e', .int .i64 a', .int .i64 b']] w0 fun en w' => en = .returned (.tuple #[.agg #[.int .i64 0, .int .i64 0, .int .i64 0], .bool false]) ∧ Below w0.heap.size w0 w') := Lib.hid fun w0 => by have h := implIdealProduct_any d2 e a b e' a' b' w0 hd2; simpa only [hm', iz, if_true, if_false, Bool.false_eq_true] using h
          have p2 : Hid (∀ w0, Calls Try.prog 26 #[.int .i64 d2, .agg #[.int .i64 e, .int .i64 a, .int .i64 b], .agg #[.int .i64 e', .int .i64 a', .int .i64 b']] w0 fun en w' => en = .returned (.tuple #[.agg #[.int .i64 0, .int .i64 0, .int .i64 0], .bool false]) ∧ Below w0.heap.size w0 w') := Lib.hid fun w0 => by have h := specIdealProduct_any d2 e a b e' a' b' w0 hd2; simpa only [hm', iz, if_true, if_false, Bool.false_eq_true] using h
          clear hm hm'
          go_wp2_with fail
          refine (p1.out _).mono ?_
          rintro e47 v47 ⟨rfl, hB47⟩
          obtain ⟨hC47, hF47⟩ := bcell hB47
          have hz47 := hB47.size
          (try simp at hz47)
          have hW47 : Hid (Below w.heap.size w v47) := Lib.hid (by have hX := hW42.out; repeat (first | with_reducible exact Below.refl _ _ | with_reducible assumption | ((with_reducible refine blA ?_ ?_); (focus (first | omega | (simp <;> omega)))) | (with_reducible refine blD ?_) | (with_reducible refine blN ?_) | ((with_reducible refine blS ?_ ?_); (focus (first | omega | (simp <;> omega)))) | ((with_reducible refine blT (by assumption) ?_ ?_); (focus (first | omega | (simp <;> omega))))))
          have hwz47 := hW47.out.size
          have hb47_0 : v30.heap.size < v47.heap.size := by omega
          have hc47_0 : v30.heap.size < v47.heap.size + 1 := by omega
          have hb47_1 : v30.heap.size + 1 < v47.heap.size := by omega
          have hc47_1 : v30.heap.size + 1 < v47.heap.size + 1 := by omega
          clear hB47
          go_wp2_with fail
          refine (p2.out _).mono ?_
          rintro e48 v48 ⟨rfl, hB48⟩
          obtain ⟨hC48, hF48⟩ := bcell hB48
          have hz48 := hB48.size
          (try simp at hz48)
          have hW48 : Hid (Below w.heap.size w v48) := Lib.hid (by have hX := hW47.out; repeat (first | with_reducible exact Below.refl _ _ | with_reducible assumption | ((with_reducible refine blA ?_ ?_); (focus (first | omega | (simp <;> omega)))) | (with_reducible refine blD ?_) | (with_reducible refine blN ?_) | ((with_reducible refine blS ?_ ?_); (focus (first | omega | (simp <;> omega)))) | ((with_reducible refine blT (by assumption) ?_ ?_); (focus (first | omega | (simp <;> omega))))))
          have hwz48 := hW48.out.size
          have hb48_0 : v30.heap.size < v48.heap.size := by omega
          have hc48_0 : v30.heap.size < v48.heap.size + 1 := by omega
          have hb48_1 : v30.heap.size + 1 < v48.heap.size := by omega
          have hc48_1 : v30.heap.size + 1 < v48.heap.size + 1 := by omega
          have hb48_2 : v47.heap.size < v48.heap.size := by omega
          have hc48_2 : v47.heap.size < v48.heap.size + 1 := by omega
          clear hB48
          go_wp2_with fail
          go_ret
          refine ⟨rfl, ?_⟩
          have hX := hW48.out
          repeat (first | with_reducible exact Below.refl _ _ | with_reducible assumption | ((with_reducible refine blA ?_ ?_); (focus (first | omega | (simp <;> omega)))) | (with_reducible refine blD ?_) | (with_reducible refine blN ?_) | ((with_reducible refine blS ?_ ?_); (focus (first | omega | (simp <;> omega)))) | ((with_reducible refine blT (by assumption) ?_ ?_); (focus (first | omega | (simp <;> omega)))))
  · have hk' : (idB d e0 a0' b0 && elB d u v) = false := by simpa using hk
    have h1 : Hid (∀ w0, Calls Try.prog 16 #[.int .i64 d, .agg #[.int .i64 e0, .int .i64 a0', .int .i64 b0], .int .i64 u, .int .i64 v] w0 fun en w' => en = .returned (.tuple #[.bool (heB d e0 a0' b0 u v), .bool false]) ∧ Below w0.heap.size w0 w') := Lib.hid fun w0 => by have h := implHasElement_any d e0 a0' b0 u v w0 hd; rwa [hk'] at h
    have h2 : Hid (∀ w0, Calls Try.prog 15 #[.int .i64 d, .agg #[.int .i64 e0, .int .i64 a0', .int .i64 b0], .int .i64 u, .int .i64 v] w0 fun en w' => en = .returned (.tuple #[.bool (heB d e0 a0' b0 u v), .bool false]) ∧ Below w0.heap.size w0 w') := Lib.hid fun w0 => by have h := specHasElement_any d e0 a0' b0 u v w0 hd; rwa [hk'] at h
    generalize heB d e0 a0' b0 u v = is at *
    clear hk hk'
    go_wp2_with fail
    refine (h1.out _).mono ?_
    rintro e49 v49 ⟨rfl, hB49⟩
    obtain ⟨hC49, hF49⟩ := bcell hB49
    have hz49 := hB49.size
    (try simp at hz49)
    have hW49 : Hid (Below w.heap.size w v49) := Lib.hid (by have hX := hW0.out; repeat (first | with_reducible exact Below.refl _ _ | with_reducible assumption | ((with_reducible refine blA ?_ ?_); (focus (first | omega | (simp <;> omega)))) | (with_reducible refine blD ?_) | (with_reducible refine blN ?_) | ((with_reducible refine blS ?_ ?_); (focus (first | omega | (simp <;> omega)))) | ((with_reducible refine blT (by assumption) ?_ ?_); (focus (first | omega | (simp <;> omega))))))
    have hwz49 := hW49.out.size
    have hb49_0 : vb.heap.size < v49.heap.size := by omega
    have hc49_0 : vb.heap.size < v49.heap.size + 1 := by omega
    clear hB49
    go_wp2_with fail
    refine (h2.out _).mono ?_
    rintro e50 v50 ⟨rfl, hB50⟩
    obtain ⟨hC50, hF50⟩ := bcell hB50
    have hz50 := hB50.size
    (try simp at hz50)
    have hW50 : Hid (Below w.heap.size w v50) := Lib.hid (by have hX := hW49.out; repeat (first | with_reducible exact Below.refl _ _ | with_reducible assumption | ((with_reducible refine blA ?_ ?_); (focus (first | omega | (simp <;> omega)))) | (with_reducible refine blD ?_) | (with_reducible refine blN ?_) | ((with_reducible refine blS ?_ ?_); (focus (first | omega | (simp <;> omega)))) | ((with_reducible refine blT (by assumption) ?_ ?_); (focus (first | omega | (simp <;> omega))))))
    have hwz50 := hW50.out.size
    have hb50_0 : vb.heap.size < v50.heap.size := by omega
    have hc50_0 : vb.heap.size < v50.heap.size + 1 := by omega
    clear hB50
    go_wp2_with fail
    refine (drawIdealSum_any a1 len1 cap1 _ (hc1.up (show w.heap.size ≤ _ by first | omega | (simp; omega)) (show Below w.heap.size w _ by have hX := hW50.out; repeat (first | with_reducible exact Below.refl _ _ | with_reducible assumption | ((with_reducible refine blA ?_ ?_); (focus (first | omega | (simp <;> omega)))) | (with_reducible refine blD ?_) | (with_reducible refine blN ?_) | ((with_reducible refine blS ?_ ?_); (focus (first | omega | (simp <;> omega)))) | ((with_reducible refine blT (by assumption) ?_ ?_); (focus (first | omega | (simp <;> omega))))))) (by omega)).mono ?_
    rintro e51 v51 ⟨⟨d2, ⟨e, a, b⟩, ⟨e', a', b'⟩, rfl, hd2, hx2, hy2⟩, hB51⟩
    have hz51 := hB51.size
    (try simp at hz51)
    have hW51 : Hid (Below w.heap.size w v51) := Lib.hid (by have hX := hW50.out; repeat (first | with_reducible exact Below.refl _ _ | with_reducible assumption | ((with_reducible refine blA ?_ ?_); (focus (first | omega | (simp <;> omega)))) | (with_reducible refine blD ?_) | (with_reducible refine blN ?_) | ((with_reducible refine blS ?_ ?_); (focus (first | omega | (simp <;> omega)))) | ((with_reducible refine blT (by assumption) ?_ ?_); (focus (first | omega | (simp <;> omega))))))
    have hwz51 := hW51.out.size
    clear hB51 hx2 hy2
    simp only at *
    by_cases hs : smOk d2 e a b e' a' b' = true
    · obtain ⟨m1, m2⟩ := sum_contains hs
      have m3 := smOk_both hs
      have c1 : Hid (∀ w0, Calls Try.prog 22 #[.int .i64 d2, .agg #[.int .i64 e, .int .i64 a, .int .i64 b], .agg #[.int .i64 e', .int .i64 a', .int .i64 b']] w0 fun en w' => en = .returned (.tuple #[.agg #[.int .i64 (lE (sumL e a b e' a' b')), .int .i64 (lA (sumL e a b e' a' b')), .int .i64 (lB (sumL e a b e' a' b'))], .bool true]) ∧ Below w0.heap.size w0 w') := Lib.hid fun w0 => by have h := implIdealSum_any d2 e a b e' a' b' w0 hd2; simpa only [hs, iz, if_true, if_false, Bool.false_eq_true] using h
      have c2 : Hid (∀ w0, Calls Try.prog 21 #[.int .i64 d2, .agg #[.int .i64 e, .int .i64 a, .int .i64 b], .agg #[.int .i64 e', .int .i64 a', .int .i64 b']] w0 fun en w' => en = .returned (.tuple #[.agg #[.int .i64 (lE (sumL e a b e' a' b')), .int .i64 (lA (sumL e a b e' a' b')), .int .i64 (lB (sumL e a b e' a' b'))], .bool true]) ∧ Below w0.heap.size w0 w') := Lib.hid fun w0 => by have h := specIdealSum_any d2 e a b e' a' b' w0 hd2; simpa only [hs, iz, if_true, if_false, Bool.false_eq_true] using h
      have r1 : Hid (∀ w0, Calls Try.prog 18 #[.int .i64 d2, .agg #[.int .i64 (lE (sumL e a b e' a' b')), .int .i64 (lA (sumL e a b e' a' b')), .int .i64 (lB (sumL e a b e' a' b'))], .agg #[.int .i64 e, .int .i64 a, .int .i64 b]] w0 fun en w' => en = .returned (.tuple #[.bool true, .bool true]) ∧ Below w0.heap.size w0 w') := Lib.hid fun w0 => by have h := implContainsIdeal_any d2 (lE (sumL e a b e' a' b')) (lA (sumL e a b e' a' b')) (lB (sumL e a b e' a' b')) e a b w0 hd2; simpa only [m1, m3.1, m3.2.2, Bool.and_self] using h
      have r2 : Hid (∀ w0, Calls Try.prog 18 #[.int .i64 d2, .agg #[.int .i64 (lE (sumL e a b e' a' b')), .int .i64 (lA (sumL e a b e' a' b')), .int .i64 (lB (sumL e a b e' a' b'))], .agg #[.int .i64 e', .int .i64 a', .int .i64 b']] w0 fun en w' => en = .returned (.tuple #[.bool true, .bool true]) ∧ Below w0.heap.size w0 w') := Lib.hid fun w0 => by have h := implContainsIdeal_any d2 (lE (sumL e a b e' a' b')) (lA (sumL e a b e' a' b')) (lB (sumL e a b e' a' b')) e' a' b' w0 hd2; simpa only [m2, m3.2.1, m3.2.2, Bool.and_self] using h
      clear m1 m2 m3 hs
      generalize lE (sumL e a b e' a' b') = E2 at *
      generalize lA (sumL e a b e' a' b') = A2 at *
      generalize lB (sumL e a b e' a' b') = B2 at *
      go_wp2_with fail
      refine (c1.out _).mono ?_
      rintro e52 v52 ⟨rfl, hB52⟩
      obtain ⟨hC52, hF52⟩ := bcell hB52
      have hz52 := hB52.size
      (try simp at hz52)
      have hW52 : Hid (Below w.heap.size w v52) := Lib.hid (by have hX := hW51.out; repeat (first | with_reducible exact Below.refl _ _ | with_reducible assumption | ((with_reducible refine blA ?_ ?_); (focus (first | omega | (simp <;> omega)))) | (with_reducible refine blD ?_) | (with_reducible refine blN ?_) | ((with_reducible refine blS ?_ ?_); (focus (first | omega | (simp <;> omega)))) | ((with_reducible refine blT (by assumption) ?_ ?_); (focus (first | omega | (simp <;> omega))))))
      have hwz52 := hW52.out.size
      have hb52_0 : v51.heap.size < v52.heap.size := by omega
      have hc52_0 : v51.heap.size < v52.heap.size + 1 := by omega
      have hb52_1 : v51.heap.size + 1 < v52.heap.size := by omega
      have hc52_1 : v51.heap.size + 1 < v52.heap.size + 1 := by omega
      clear hB52
      go_wp2_with fail
      refine (c2.out _).mono ?_
      rintro e53 v53 ⟨rfl, hB53⟩
      obtain ⟨hC53, hF53⟩ := bcell hB53
      have hz53 := hB53.size
      (try simp at hz53)
      have hW53 : Hid (Below w.heap.size w v53) := Lib.hid (by have hX := hW52.out; repeat (first | with_reducible exact Below.refl _ _ | with_reducible assumption | ((with_reducible refine blA ?_ ?_); (focus (first | omega | (simp <;> omega)))) | (with_reducible refine blD ?_) | (with_reducible refine blN ?_) | ((with_reducible refine blS ?_ ?_); (focus (first | omega | (simp <;> omega)))) | ((with_reducible refine blT (by assumption) ?_ ?_); (focus (first | omega | (simp <;> omega))))))
      have hwz53 := hW53.out.size
      have hb53_0 : v51.heap.size < v53.heap.size := by omega
      have hc53_0 : v51.heap.size < v53.heap.size + 1 := by omega
      have hb53_1 : v51.heap.size + 1 < v53.heap.size := by omega
      have hc53_1 : v51.heap.size + 1 < v53.heap.size + 1 := by omega
      have hb53_2 : v52.heap.size < v53.heap.size := by omega
      have hc53_2 : v52.heap.size < v53.heap.size + 1 := by omega
      clear hB53
      go_wp2_with fail
      refine (r1.out _).mono ?_
      rintro e54 v54 ⟨rfl, hB54⟩
      obtain ⟨hC54, hF54⟩ := bcell hB54
      have hz54 := hB54.size
      (try simp at hz54)
      have hW54 : Hid (Below w.heap.size w v54) := Lib.hid (by have hX := hW53.out; repeat (first | with_reducible exact Below.refl _ _ | with_reducible assumption | ((with_reducible refine blA ?_ ?_); (focus (first | omega | (simp <;> omega)))) | (with_reducible refine blD ?_) | (with_reducible refine blN ?_) | ((with_reducible refine blS ?_ ?_); (focus (first | omega | (simp <;> omega)))) | ((with_reducible refine blT (by assumption) ?_ ?_); (focus (first | omega | (simp <;> omega))))))
      have hwz54 := hW54.out.size
      have hb54_0 : v51.heap.size < v54.heap.size := by omega
      have hc54_0 : v51.heap.size < v54.heap.size + 1 := by omega
      have hb54_1 : v51.heap.size + 1 < v54.heap.size := by omega
      have hc54_1 : v51.heap.size + 1 < v54.heap.size + 1 := by omega
      have hb54_2 : v52.heap.size < v54.heap.size := by omega
      have hc54_2 : v52.heap.size < v54.heap.size + 1 := by omega
      clear hB54
      go_wp2_with fail
      refine (r2.out _).mono ?_
      rintro e55 v55 ⟨rfl, hB55⟩
      obtain ⟨hC55, hF55⟩ := bcell hB55
      have hz55 := hB55.size
      (try simp at hz55)
      have hW55 : Hid (Below w.heap.size w v55) := Lib.hid (by have hX := hW54.out; repeat (first | with_reducible exact Below.refl _ _ | with_reducible assumption | ((with_reducible refine blA ?_ ?_); (focus (first | omega | (simp <;> omega)))) | (with_reducible refine blD ?_) | (with_reducible refine blN ?_) | ((with_reducible refine blS ?_ ?_); (focus (first | omega | (simp <;> omega)))) | ((with_reducible refine blT (by assumption) ?_ ?_); (focus (first | omega | (simp <;> omega))))))
      have hwz55 := hW55.out.size
      have hb55_0 : v51.heap.size < v55.heap.size := by omega
      have hc55_0 : v51.heap.size < v55.heap.size + 1 := by omega
      have hb55_1 : v51.heap.size + 1 < v55.heap.size := by omega
      have hc55_1 : v51.heap.size + 1 < v55.heap.size + 1 := by omega
      have hb55_2 : v52.heap.size < v55.heap.size := by omega
      have hc55_2 : v52.heap.size < v55.heap.size + 1 := by omega
      clear hB55
      by_cases hm : muOk d2 e a b e' a' b' = true
      · obtain ⟨m1, m2⟩ := mul_contains hm
        have m3 := muOk_both hm
        have p1 : Hid (∀ w0, Calls Try.prog 27 #[.int .i64 d2, .agg #[.int .i64 e, .int .i64 a, .int .i64 b], .agg #[.int .i64 e', .int .i64 a', .int .i64 b']] w0 fun en w' => en = .returned (.tuple #[.agg #[.int .i64 (muE d2 e a b e' a' b'), .int .i64 (lA (mulL d2 a b a' b')), .int .i64 (lB (mulL d2 a b a' b'))], .bool true]) ∧ Below w0.heap.size w0 w') := Lib.hid fun w0 => by have h := implIdealProduct_any d2 e a b e' a' b' w0 hd2; simpa only [hm, iz, if_true, if_false, Bool.false_eq_true] using h
        have p2 : Hid (∀ w0, Calls Try.prog 26 #[.int .i64 d2, .agg #[.int .i64 e, .int .i64 a, .int .i64 b], .agg #[.int .i64 e', .int .i64 a', .int .i64 b']] w0 fun en w' => en = .returned (.tuple #[.agg #[.int .i64 (muE d2 e a b e' a' b'), .int .i64 (lA (mulL d2 a b a' b')), .int .i64 (lB (mulL d2 a b a' b'))], .bool true]) ∧ Below w0.heap.size w0 w') := Lib.hid fun w0 => by have h := specIdealProduct_any d2 e a b e' a' b' w0 hd2; simpa only [hm, iz, if_true, if_false, Bool.false_eq_true] using h
        have q1 : Hid (∀ w0, Calls Try.prog 18 #[.int .i64 d2, .agg #[.int .i64 e, .int .i64 a, .int .i64 b], .agg #[.int .i64 (muE d2 e a b e' a' b'), .int .i64 (lA (mulL d2 a b a' b')), .int .i64 (lB (mulL d2 a b a' b'))]] w0 fun en w' => en = .returned (.tuple #[.bool true, .bool true]) ∧ Below w0.heap.size w0 w') := Lib.hid fun w0 => by have h := implContainsIdeal_any d2 e a b (muE d2 e a b e' a' b') (lA (mulL d2 a b a' b')) (lB (mulL d2 a b a' b')) w0 hd2; simpa only [m1, m3.1, m3.2.2, Bool.and_self] using h
        have q2 : Hid (∀ w0, Calls Try.prog 18 #[.int .i64 d2, .agg #[.int .i64 e', .int .i64 a', .int .i64 b'], .agg #[.int .i64 (muE d2 e a b e' a' b'), .int .i64 (lA (mulL d2 a b a' b')), .int .i64 (lB (mulL d2 a b a' b'))]] w0 fun en w' => en = .returned (.tuple #[.bool true, .bool true]) ∧ Below w0.heap.size w0 w') := Lib.hid fun w0 => by have h := implContainsIdeal_any d2 e' a' b' (muE d2 e a b e' a' b') (lA (mulL d2 a b a' b')) (lB (mulL d2 a b a' b')) w0 hd2; simpa only [m2, m3.2.1, m3.2.2, Bool.and_self] using h
        clear m1 m2 m3 hm
        generalize muE d2 e a b e' a' b' = E3 at *
        generalize lA (mulL d2 a b a' b') = A3 at *
        generalize lB (mulL d2 a b a' b') = B3 at *
        go_wp2_with fail
        refine (p1.out _).mono ?_
        rintro e56 v56 ⟨rfl, hB56⟩
        obtain ⟨hC56, hF56⟩ := bcell hB56
        have hz56 := hB56.size
        (try simp at hz56)
        have hW56 : Hid (Below w.heap.size w v56) := Lib.hid (by have hX := hW55.out; repeat (first | with_reducible exact Below.refl _ _ | with_reducible assumption | ((with_reducible refine blA ?_ ?_); (focus (first | omega | (simp <;> omega)))) | (with_reducible refine blD ?_) | (with_reducible refine blN ?_) | ((with_reducible refine blS ?_ ?_); (focus (first | omega | (simp <;> omega)))) | ((with_reducible refine blT (by assumption) ?_ ?_); (focus (first | omega | (simp <;> omega))))))
        have hwz56 := hW56.out.size
        have hb56_0 : v51.heap.size < v56.heap.size := by omega
        have hc56_0 : v51.heap.size < v56.heap.size + 1 := by omega
        have hb56_1 : v51.heap.size + 1 < v56.heap.size := by omega
        have hc56_1 : v51.heap.size + 1 < v56.heap.size + 1 := by omega
        clear hB56
        go_wp2_with fail
        refine (p2.out _).mono ?_
        rintro e57 v57 ⟨rfl, hB57⟩
        obtain ⟨hC57, hF57⟩ := bcell hB57
        have hz57 := hB57.size
        (try simp at hz57)
        have hW57 : Hid (Below w.heap.size w v57) := Lib.hid (by have hX := hW56.out; repeat (first | with_reducible exact Below.refl _ _ | with_reducible assumption | ((with_reducible refine blA ?_ ?_); (focus (first | omega | (simp <;> omega)))) | (with_reducible refine blD ?_) | (with_reducible refine blN ?_) | ((with_reducible refine blS ?_ ?_); (focus (first | omega | (simp <;> omega)))) | ((with_reducible refine blT (by assumption) ?_ ?_); (focus (first | omega | (simp <;> omega))))))
        have hwz57 := hW57.out.size
        have hb57_0 : v51.heap.size < v57.heap.size := by omega
        have hc57_0 : v51.heap.size < v57.heap.size + 1 := by omega
        have hb57_1 : v51.heap.size + 1 < v57.heap.size := by omega
        have hc57_1 : v51.heap.size + 1 < v57.heap.size + 1 := by omega
        have hb57_2 : v56.heap.size < v57.heap.size := by omega
        have hc57_2 : v56.heap.size < v57.heap.size + 1 := by omega
        clear hB57
        go_wp2_with fail
        refine (q1.out _).mono ?_
        rintro e58 v58 ⟨rfl, hB58⟩
        obtain ⟨hC58, hF58⟩ := bcell hB58
        have hz58 := hB58.size
        (try simp at hz58)
        have hW58 : Hid (Below w.heap.size w v58) := Lib.hid (by have hX := hW57.out; repeat (first | with_reducible exact Below.refl _ _ | with_reducible assumption | ((with_reducible refine blA ?_ ?_); (focus (first | omega | (simp <;> omega)))) | (with_reducible refine blD ?_) | (with_reducible refine blN ?_) | ((with_reducible refine blS ?_ ?_); (focus (first | omega | (simp <;> omega)))) | ((with_reducible refine blT (by assumption) ?_ ?_); (focus (first | omega | (simp <;> omega))))))
        have hwz58 := hW58.out.size
        have hb58_0 : v51.heap.size < v58.heap.size := by omega
        have hc58_0 : v51.heap.size < v58.heap.size + 1 := by omega
        have hb58_1 : v51.heap.size + 1 < v58.heap.size := by omega
        have hc58_1 : v51.heap.size + 1 < v58.heap.size + 1 := by omega
        have hb58_2 : v56.heap.size < v58.heap.size := by omega
        have hc58_2 : v56.heap.size < v58.heap.size + 1 := by omega
        clear hB58
        go_wp2_with fail
        refine (q2.out _).mono ?_
        rintro e59 v59 ⟨rfl, hB59⟩
        obtain ⟨hC59, hF59⟩ := bcell hB59
        have hz59 := hB59.size
        (try simp at hz59)
        have hW59 : Hid (Below w.heap.size w v59) := Lib.hid (by have hX := hW58.out; repeat (first | with_reducible exact Below.refl _ _ | with_reducible assumption | ((with_reducible refine blA ?_ ?_); (focus (first | omega | (simp <;> omega)))) | (with_reducible refine blD ?_) | (with_reducible refine blN ?_) | ((with_reducible refine blS ?_ ?_); (focus (first | omega | (simp <;> omega)))) | ((with_reducible refine blT (by assumption) ?_ ?_); (focus (first | omega | (simp <;> omega))))))
        have hwz59 := hW59.out.size
        have hb59_0 : v51.heap.size < v59.heap.size := by omega
        have hc59_0 : v51.heap.size < v59.heap.size + 1 := by omega
        have hb59_1 : v51.heap.size + 1 < v59.heap.size := by omega
        have hc59_1 : v51.heap.size + 1 < v59.heap.size + 1 := by omega
        have hb59_2 : v56.heap.size < v59.heap.size := by omega
        have hc59_2 : v56.heap.size < v59.heap.size + 1 := by omega
        clear hB59
        go_wp2_with fail
        go_ret
        refine ⟨rfl, ?_⟩
        have hX := hW59.out
        repeat (first | with_reducible exact Below.refl _ _ | with_reducible assumption | ((with_reducible refine blA ?_ ?_); (focus (first | omega | (simp <;> omega)))) | (with_reducible refine blD ?_) | (with_reducible refine blN ?_) | ((with_reducible refine blS ?_ ?_); (focus (first | omega | (simp <;> omega)))) | ((with_reducible refine blT (by assumption) ?_ ?_); (focus (first | omega | (simp <;> omega)))))
      · have hm' : muOk d2 e a b e' a' b' = false := by simpa using hm
        have p1 : Hid (∀ w0, Calls Try.prog 27 #[.int .i64 d2, .agg #[.int .i64 e, .int .i64 a, .int .i64 b], .agg #[.int .i64 e', .int .i64 a', .int .i64 b']] w0 fun en w' => en = .returned (.tuple #[.agg #[.int .i64 0, .int .i64 0, .int .i64 0], .bool false]) ∧ Below w0.heap.size w0 w') := Lib.hid fun w0 => by have h := implIdealProduct_any d2 e a b e' a' b' w0 hd2; simpa only [hm', iz, if_true, if_false, Bool.false_eq_true] using h
        have p2 : Hid (∀ w0, Calls Try.prog 26 #[.int .i64 d2, .agg #[.int .i64 e, .int .i64 a, .int .i64 b], .agg #[.int .i64 e', .int .i64 a', .int .i64 b']] w0 fun en w' => en = .returned (.tuple #[.agg #[.int .i64 0, .int .i64 0, .int .i64 0], .bool false]) ∧ Below w0.heap.size w0 w') := Lib.hid fun w0 => by have h := specIdealProduct_any d2 e a b e' a' b' w0 hd2; simpa only [hm', iz, if_true, if_false, Bool.false_eq_true] using h
        clear hm hm'
        go_wp2_with fail
        refine (p1.out _).mono ?_
        rintro e60 v60 ⟨rfl, hB60⟩
        obtain ⟨hC60, hF60⟩ := bcell hB60
        have hz60 := hB60.size
        (try simp at hz60)
        have hW60 : Hid (Below w.heap.size w v60) := Lib.hid (by have hX := hW55.out; repeat (first | with_reducible exact Below.refl _ _ | with_reducible assumption | ((with_reducible refine blA ?_ ?_); (focus (first | omega | (simp <;> omega)))) | (with_reducible refine blD ?_) | (with_reducible refine blN ?_) | ((with_reducible refine blS ?_ ?_); (focus (first | omega | (simp <;> omega)))) | ((with_reducible refine blT (by assumption) ?_ ?_); (focus (first | omega | (simp <;> omega))))))
        have hwz60 := hW60.out.size
        have hb60_0 : v51.heap.size < v60.heap.size := by omega
        have hc60_0 : v51.heap.size < v60.heap.size + 1 := by omega
        have hb60_1 : v51.heap.size + 1 < v60.heap.size := by omega
        have hc60_1 : v51.heap.size + 1 < v60.heap.size + 1 := by omega
        clear hB60
        go_wp2_with fail
        refine (p2.out _).mono ?_
        rintro e61 v61 ⟨rfl, hB61⟩
        obtain ⟨hC61, hF61⟩ := bcell hB61
        have hz61 := hB61.size
        (try simp at hz61)
        have hW61 : Hid (Below w.heap.size w v61) := Lib.hid (by have hX := hW60.out; repeat (first | with_reducible exact Below.refl _ _ | with_reducible assumption | ((with_reducible refine blA ?_ ?_); (focus (first | omega | (simp <;> omega)))) | (with_reducible refine blD ?_) | (with_reducible refine blN ?_) | ((with_reducible refine blS ?_ ?_); (focus (first | omega | (simp <;> omega)))) | ((with_reducible refine blT (by assumption) ?_ ?_); (focus (first | omega | (simp <;> omega))))))
        have hwz61 := hW61.out.size
        have hb61_0 : v51.heap.size < v61.heap.size := by omega
        have hc61_0 : v51.heap.size < v61.heap.size + 1 := by omega
        have hb61_1 : v51.heap.size + 1 < v61.heap.size := by omega
        have hc61_1 : v51.heap.size + 1 < v61.heap.size + 1 := by omega
        have hb61_2 : v60.heap.size < v61.heap.size := by omega
        have hc61_2 : v60.heap.size < v61.heap.size + 1 := by omega
        clear hB61
        go_wp2_with fail
        go_ret
        refine ⟨rfl, ?_⟩
        have hX := hW61.out
        repeat (first | with_reducible exact Below.refl _ _ | with_reducible assumption | ((with_reducible refine blA ?_ ?_); (focus (first | omega | (simp <;> omega)))) | (with_reducible refine blD ?_) | (with_reducible refine blN ?_) | ((with_reducible refine blS ?_ ?_); (focus (first | omega | (simp <;> omega)))) | ((with_reducible refine blT (by assumption) ?_ ?_); (focus (first | omega | (simp <;> omega)))))
    · have hs' : smOk d2 e a b e' a' b' = false := by simpa using hs
      have c1 : Hid (∀ w0, Calls Try.prog 22 #[.int .i64 d2, .agg #[.int .i64 e, .int .i64 a, .int .i64 b], .agg #[.int .i64 e', .int .i64 a', .int .i64 b']] w0 fun en w' => en = .returned (.tuple #[.agg #[.int .i64 0, .int .i64 0, .int .i64 0], .bool false]) ∧ Below w0.heap.size w0 w') := Lib.hid fun w0 => by have h := implIdealSum_any d2 e a b e' a' b' w0 hd2; simpa only [hs', iz, if_true, if_false, Bool.false_eq_true] using h
      have c2 : Hid (∀ w0, Calls Try.prog 21 #[.int .i64 d2, .agg #[.int .i64 e, .int .i64 a, .int .i64 b], .agg #[.int .i64 e', .int .i64 a', .int .i64 b']] w0 fun en w' => en = .returned (.tuple #[.agg #[.int .i64 0, .int .i64 0, .int .i64 0], .bool false]) ∧ Below w0.heap.size w0 w') := Lib.hid fun w0 => by have h := specIdealSum_any d2 e a b e' a' b' w0 hd2; simpa only [hs', iz, if_true, if_false, Bool.false_eq_true] using h
      clear hs hs'
      go_wp2_with fail
      refine (c1.out _).mono ?_
      rintro e62 v62 ⟨rfl, hB62⟩
      obtain ⟨hC62, hF62⟩ := bcell hB62
      have hz62 := hB62.size
      (try simp at hz62)
      have hW62 : Hid (Below w.heap.size w v62) := Lib.hid (by have hX := hW51.out; repeat (first | with_reducible exact Below.refl _ _ | with_reducible assumption | ((with_reducible refine blA ?_ ?_); (focus (first | omega | (simp <;> omega)))) | (with_reducible refine blD ?_) | (with_reducible refine blN ?_) | ((with_reducible refine blS ?_ ?_); (focus (first | omega | (simp <;> omega)))) | ((with_reducible refine blT (by assumption) ?_ ?_); (focus (first | omega | (simp <;> omega))))))
      have hwz62 := hW62.out.size
      have hb62_0 : v51.heap.size < v62.heap.size := by omega
      have hc62_0 : v51.heap.size < v62.heap.size + 1 := by omega
      have hb62_1 : v51.heap.size + 1 < v62.heap.size := by omega
      have hc62_1 : v51.heap.size + 1 < v62.heap.size + 1 := by omega
      clear hB62
      go_wp2_with fail
      refine (c2.out _).mono ?_
      rintro e63 v63 ⟨rfl, hB63⟩
      obtain ⟨hC63, hF63⟩ := bcell hB63
      have hz63 := hB63.size
      (try simp at hz63)
      have hW63 : Hid (Below w.heap.size w v63) := Lib.hid (by have hX := hW62.out; repeat (first | with_reducible exact Below.refl _ _ | with_reducible assumption | ((with_reducible refine blA ?_ ?_); (focus (first | omega | (simp <;> omega)))) | (with_reducible refine blD ?_) | (with_reducible refine blN ?_) | ((with_reducible refine blS ?_ ?_); (focus (first | omega | (simp <;> omega)))) | ((with_reducible refine blT (by assumption) ?_ ?_); (focus (first | omega | (simp <;> omega))))))
      have hwz63 := hW63.out.size
      have hb63_0 : v51.heap.size < v63.heap.size := by omega
      have hc63_0 : v51.heap.size < v63.heap.size + 1 := by omega
      have hb63_1 : v51.heap.size + 1 < v63.heap.size := by omega
      have hc63_1 : v51.heap.size + 1 < v63.heap.size + 1 := by omega
      have hb63_2 : v62.heap.size < v63.heap.size := by omega
      have hc63_2 : v62.heap.size < v63.heap.size + 1 := by omega
      clear hB63
      by_cases hm : muOk d2 e a b e' a' b' = true
      · obtain ⟨m1, m2⟩ := mul_contains hm
        have m3 := muOk_both hm
        have p1 : Hid (∀ w0, Calls Try.prog 27 #[.int .i64 d2, .agg #[.int .i64 e, .int .i64 a, .int .i64 b], .agg #[.int .i64 e', .int .i64 a', .int .i64 b']] w0 fun en w' => en = .returned (.tuple #[.agg #[.int .i64 (muE d2 e a b e' a' b'), .int .i64 (lA (mulL d2 a b a' b')), .int .i64 (lB (mulL d2 a b a' b'))], .bool true]) ∧ Below w0.heap.size w0 w') := Lib.hid fun w0 => by have h := implIdealProduct_any d2 e a b e' a' b' w0 hd2; simpa only [hm, iz, if_true, if_false, Bool.false_eq_true] using h
        have p2 : Hid (∀ w0, Calls Try.prog 26 #[.int .i64 d2, .agg #[.int .i64 e, .int .i64 a, .int .i64 b], .agg #[.int .i64 e', .int .i64 a', .int .i64 b']] w0 fun en w' => en = .returned (.tuple #[.agg #[.int .i64 (muE d2 e a b e' a' b'), .int .i64 (lA (mulL d2 a b a' b')), .int .i64 (lB (mulL d2 a b a' b'))], .bool true]) ∧ Below w0.heap.size w0 w') := Lib.hid fun w0 => by have h := specIdealProduct_any d2 e a b e' a' b' w0 hd2; simpa only [hm, iz, if_true, if_false, Bool.false_eq_true] using h
        have q1 : Hid (∀ w0, Calls Try.prog 18 #[.int .i64 d2, .agg #[.int .i64 e, .int .i64 a, .int .i64 b], .agg #[.int .i64 (muE d2 e a b e' a' b'), .int .i64 (lA (mulL d2 a b a' b')), .int .i64 (lB (mulL d2 a b a' b'))]] w0 fun en w' => en = .returned (.tuple #[.bool true, .bool true]) ∧ Below w0.heap.size w0 w') := Lib.hid fun w0 => by have h := implContainsIdeal_any d2 e a b (muE d2 e a b e' a' b') (lA (mulL d2 a b a' b')) (lB (mulL d2 a b a' b')) w0 hd2; simpa only [m1, m3.1, m3.2.2, Bool.and_self] using h
        have q2 : Hid (∀ w0, Calls Try.prog 18 #[.int .i64 d2, .agg #[.int .i64 e', .int .i64 a', .int .i64 b'], .agg #[.int .i64 (muE d2 e a b e' a' b'), .int .i64 (lA (mulL d2 a b a' b')), .int .i64 (lB (mulL d2 a b a' b'))]] w0 fun en w' => en = .returned (.tuple #[.bool true, .bool true]) ∧ Below w0.heap.size w0 w') := Lib.hid fun w0 => by have h := implContainsIdeal_any d2 e' a' b' (muE d2 e a b e' a' b') (lA (mulL d2 a b a' b')) (lB (mulL d2 a b a' b')) w0 hd2; simpa only [m2, m3.2.1, m3.2.2, Bool.and_self] using h
        clear m1 m2 m3 hm
        generalize muE d2 e a b e' a' b' = E3 at *
        generalize lA (mulL d2 a b a' b') = A3 at *
        generalize lB (mulL d2 a b a' b') = B3 at *
        go_wp2_with fail
        refine (p1.out _).mono ?_
        rintro e64 v64 ⟨rfl, hB64⟩
        obtain ⟨hC64, hF64⟩ := bcell hB64
        have hz64 := hB64.size
        (try simp at hz64)
        have hW64 : Hid (Below w.heap.size w v64) := Lib.hid (by have hX := hW63.out; repeat (first | with_reducible exact Below.refl _ _ | with_reducible assumption | ((with_reducible refine blA ?_ ?_); (focus (first | omega | (simp <;> omega)))) | (with_reducible refine blD ?_) | (with_reducible refine blN ?_) | ((with_reducible refine blS ?_ ?_); (focus (first | omega | (simp <;> omega)))) | ((with_reducible refine blT (by assumption) ?_ ?_); (focus (first | omega | (simp <;> omega))))))
        have hwz64 := hW64.out.size
        have hb64_0 : v51.heap.size < v64.heap.size := by omega
        have hc64_0 : v51.heap.size < v64.heap.size + 1 := by omega
        have hb64_1 : v51.heap.size + 1 < v64.heap.size := by omega
        have hc64_1 : v51.heap.size + 1 < v64.heap.size + 1 := by omega
        clear hB64
        go_wp2_with fail
        refine (p2.out _).mono ?_
        rintro e65 v65 ⟨rfl, hB65⟩
        obtain ⟨hC65, hF65⟩ := bcell hB65
        have hz65 := hB65.size
        (try simp at hz65)
        have hW65 : Hid (Below w.heap.size w v65) := Lib.hid (by have hX := hW64.out; repeat (first | with_reducible exact Below.refl _ _ | with_reducible assumption | ((with_reducible refine blA ?_ ?_); (focus (first | omega | (simp <;> omega)))) | (with_reducible refine blD ?_) | (with_reducible refine blN ?_) | ((with_reducible refine blS ?_ ?_); (focus (first | omega | (simp <;> omega)))) | ((with_reducible refine blT (by assumption) ?_ ?_); (focus (first | omega | (simp <;> omega))))))
        have hwz65 := hW65.out.size
        have hb65_0 : v51.heap.size < v65.heap.size := by omega
        have hc65_0 : v51.heap.size < v65.heap.size + 1 := by omega
        have hb65_1 : v51.heap.size + 1 < v65.heap.size := by omega
        have hc65_1 : v51.heap.size + 1 < v65.heap.size + 1 := by omega
        have hb65_2 : v64.heap.size < v65.heap.size := by omega
        have hc65_2 : v64.heap.size < v65.heap.size + 1 := by omega
        clear hB65
        go_wp2_with fail
        refine (q1.out _).mono ?_
        rintro e66 v66 ⟨rfl, hB66⟩
        obtain ⟨hC66, hF66⟩ := bcell hB66
        have hz66 := hB66.size
        (try simp at hz66)
        have hW66 : Hid (Below w.heap.size w v66) := Lib.hid (by have hX := hW65.out; repeat (first | with_reducible exact Below.refl _ _ | with_reducible assumption | ((with_reducible refine blA ?_ ?_); (focus (first | omega | (simp <;> omega)))) | (with_reducible refine blD ?_) | (with_reducible refine blN ?_) | ((with_reducible refine blS ?_ ?_); (focus (first | omega | (simp <;> omega)))) | ((with_reducible refine blT (by assumption) ?_ ?_); (focus (first | omega | (simp <;> omega))))))
        have hwz66 := hW66.out.size
        have hb66_0 : v51.heap.size < v66.heap.size := by omega
        have hc66_0 : v51.heap.size < v66.heap.size + 1 := by omega
        have hb66_1 : v51.heap.size + 1 < v66.heap.size := by omega
        have hc66_1 : v51.heap.size + 1 < v66.heap.size + 1 := by omega
        have hb66_2 : v64.heap.size < v66.heap.size := by omega
        have hc66_2 : v64.heap.size < v66.heap.size + 1 := by omega
        clear hB66
        go_wp2_with fail
        refine (q2.out _).mono ?_
        rintro e67 v67 ⟨rfl, hB67⟩
        obtain ⟨hC67, hF67⟩ := bcell hB67
        have hz67 := hB67.size
        (try simp at hz67)
        have hW67 : Hid (Below w.heap.size w v67) := Lib.hid (by have hX := hW66.out; repeat (first | with_reducible exact Below.refl _ _ | with_reducible assumption | ((with_reducible refine blA ?_ ?_); (focus (first | omega | (simp <;> omega)))) | (with_reducible refine blD ?_) | (with_reducible refine blN ?_) | ((with_reducible refine blS ?_ ?_); (focus (first | omega | (simp <;> omega)))) | ((with_reducible refine blT (by assumption) ?_ ?_); (focus (first | omega | (simp <;> omega))))))
        have hwz67 := hW67.out.size
        have hb67_0 : v51.heap.size < v67.heap.size := by omega
        have hc67_0 : v51.heap.size < v67.heap.size + 1 := by omega
        have hb67_1 : v51.heap.size + 1 < v67.heap.size := by omega
        have hc67_1 : v51.heap.size + 1 < v67.heap.size + 1 := by omega
        have hb67_2 : v64.heap.size < v67.heap.size := by omega
        have hc67_2 : v64.heap.size < v67.heap.size + 1 := by omega
        clear hB67
        go_wp2_with fail
        go_ret
        refine ⟨rfl, ?_⟩
        have hX := hW67.out
        repeat (first | with_reducible exact Below.refl _ _ | with_reducible assumption | ((with_reducible refine blA ?_ ?_); (focus (first | omega | (simp <;> omega)))) | (with_reducible refine blD ?_) | (with_reducible refine blN ?_) | ((with_reducible refine blS ?_ ?_); (focus (first | omega | (simp <;> omega)))) | ((with_reducible refine blT (by assumption) ?_ ?_); (focus (first | omega | (simp <;> omega)))))
      · have hm' : muOk d2 e a b e' a' b' = false := by simpa using hm
        have p1 : Hid (∀ w0, Calls Try.prog 27 #[.int .i64 d2, .agg #[.int .i64 e, .int .i64 a, .int .i64 b], .agg #[.int .i64 e', .int .i64 a', .int .i64 b']] w0 fun en w' => en = .returned (.tuple #[.agg #[.int .i64 0, .int .i64 0, .int .i64 0], .bool false]) ∧ Below w0.heap.size w0 w') := Lib.hid fun w0 => by have h := implIdealProduct_any d2 e a b e' a' b' w0 hd2; simpa only [hm', iz, if_true, if_false, Bool.false_eq_true] using h
        have p2 : Hid (∀ w0, Calls Try.prog 26 #[.int .i64 d2, .agg #[.int .i64 e, .int .i64 a, .int .i64 b], .agg #[.int .i64 e', .int .i64 a', .int .i64 b']] w0 fun en w' => en = .returned (.tuple #[.agg #[.int .i64 0, .int .i64 0, .int .i64 0], .bool false]) ∧ Below w0.heap.size w0 w') := Lib.hid fun w0 => by have h := specIdealProduct_any d2 e a b e' a' b' w0 hd2; simpa only [hm', iz, if_true, if_false, Bool.false_eq_true] using h
        clear hm hm'
        go_wp2_with fail
        refine (p1.out _).mono ?_
        rintro e68 v68 ⟨rfl, hB68⟩
        obtain ⟨hC68, hF68⟩ := bcell hB68
        have hz68 := hB68.size
        (try simp at hz68)
        have hW68 : Hid (Below w.heap.size w v68) := Lib.hid (by have hX := hW63.out; repeat (first | with_reducible exact Below.refl _ _ | with_reducible assumption | ((with_reducible refine blA ?_ ?_); (focus (first | omega | (simp <;> omega)))) | (with_reducible refine blD ?_) | (with_reducible refine blN ?_) | ((with_reducible refine blS ?_ ?_); (focus (first | omega | (simp <;> omega)))) | ((with_reducible refine blT (by assumption) ?_ ?_); (focus (first | omega | (simp <;> omega))))))
        have hwz68 := hW68.out.size
        have hb68_0 : v51.heap.size < v68.heap.size := by omega
        have hc68_0 : v51.heap.size < v68.heap.size + 1 := by omega
        have hb68_1 : v51.heap.size + 1 < v68.heap.size := by omega
        have hc68_1 : v51.heap.size + 1 < v68.heap.size + 1 := by omega
        clear hB68
        go_wp2_with fail
        refine (p2.out _).mono ?_
        rintro e69 v69 ⟨rfl, hB69⟩
        obtain ⟨hC69, hF69⟩ := bcell hB69
        have hz69 := hB69.size
        (try simp at hz69)
        have hW69 : Hid (Below w.heap.size w v69) := Lib.hid (by have hX := hW68.out; repeat (first | with_reducible exact Below.refl _ _ | with_reducible assumption | ((with_reducible refine blA ?_ ?_); (focus (first | omega | (simp <;> omega)))) | (with_reducible refine blD ?_) | (with_reducible refine blN ?_) | ((with_reducible refine blS ?_ ?_); (focus (first | omega | (simp <;> omega)))) | ((with_reducible refine blT (by assumption) ?_ ?_); (focus (first | omega | (simp <;> omega))))))
        have hwz69 := hW69.out.size
        have hb69_0 : v51.heap.size < v69.heap.size := by omega
        have hc69_0 : v51.heap.size < v69.heap.size + 1 := by omega
        have hb69_1 : v51.heap.size + 1 < v69.heap.size := by omega
        have hc69_1 : v51.heap.size + 1 < v69.heap.size + 1 := by omega
        have hb69_2 : v68.heap.size < v69.heap.size := by omega
        have hc69_2 : v68.heap.size < v69.heap.size + 1 := by omega
        clear hB69
        go_wp2_with fail
        go_ret
        refine ⟨rfl, ?_⟩
        have hX := hW69.out
        repeat (first | with_reducible exact Below.refl _ _ | with_reducible assumption | ((with_reducible refine blA ?_ ?_); (focus (first | omega | (simp <;> omega)))) | (with_reducible refine blD ?_) | (with_reducible refine blN ?_) | ((with_reducible refine blS ?_ ?_); (focus (first | omega | (simp <;> omega)))) | ((with_reducible refine blT (by assumption) ?_ ?_); (focus (first | omega | (simp <;> omega)))))
end Go.Proofs.Ytahhbjjnbdggjaa
