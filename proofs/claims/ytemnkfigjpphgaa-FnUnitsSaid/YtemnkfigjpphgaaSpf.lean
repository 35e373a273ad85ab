/-
  The reference's solutions for 4, -4 and 1.
-/
import Derived.Test.YtemnkfigjpphgaaUnf
import Derived.Test.YtemnkfigjpphgaaPon
namespace Go.Proofs.Ytemnkfigjpphgaa
open Go.RowKit
attribute [local simp, local go_sem] past_cell past_frozen past_tape
set_option maxHeartbeats 4000000 in
theorem specPellFour_any (d t u : Int) (ok : Bool) (w : World) (hd : I64 d) (h : PF d t u ok) :
    Calls Try.prog 55 #[.int .i64 d] w fun en w' => en = .returned (.tuple #[.agg #[.int .i64 t, .int .i64 u], .bool ok]) ∧ Below w.heap.size w w' := by
  rcases h with ⟨hp, h⟩ | ⟨hp, rfl, rfl, rfl⟩
  · have hcall := Lib.hid fun w1 => unFour_any d t u ok w1 hp h
    have hno : ok = false → t = 0 ∧ u = 0 := by
      rcases h with ⟨rfl, _⟩ | ⟨_, h1, h2, _⟩
      · intro h; cases h
      · exact fun _ => ⟨h1, h2⟩
    clear h
    go_enter Try.func55, Try.ntmps55
    go_wp2_with (first | (go_at_call 46; refine (cyDisc_any _ _ hd).mono ?_; rintro e w' ⟨rfl, rfl⟩))
    refine (hcall.out _).mono ?_
    rintro e1 w1 ⟨⟨t', u', rfl, hv⟩, hB1⟩
    have k1 := (Blk.new w 27 #[.int .i64 0, .int .i64 0]).below hB1
    have b1 : Below w.heap.size w w1 := by repeat (first | with_reducible exact Below.refl _ _ | with_reducible assumption | ((with_reducible refine blA ?_ ?_); (focus (first | omega | (simp <;> omega)))) | (with_reducible refine blD ?_) | (with_reducible refine blN ?_) | ((with_reducible refine blS ?_ ?_); (focus (first | omega | (simp <;> omega)))) | ((with_reducible refine blT (by assumption) ?_ ?_); (focus (first | omega | (simp <;> omega)))))
    have K1 := Lib.hid k1
    have B1 := Lib.hid b1
    have l1 := k1.lt
    clear hB1 k1 b1 hcall
    have cK := K1.out.cell
    have fK := K1.out.froz
    have nK : ¬ w.heap.size = w1.heap.size := by omega
    have nK' : ¬ w1.heap.size = w.heap.size := by omega
    cases ok with
    | true =>
      obtain ⟨rfl, rfl⟩ := hv rfl
      clear hno hv
      go_wp2_with fail
      have b1 := B1.out
      refine bodyPost_ret (v := .tuple #[.agg #[.int .i64 t', .int .i64 u'], .bool true]) (by go_light; simp [results, Try.results55, go_sem, *]) rfl ⟨rfl, ?_⟩
      repeat (first | with_reducible exact Below.refl _ _ | with_reducible assumption | ((with_reducible refine blA ?_ ?_); (focus (first | omega | (simp <;> omega)))) | (with_reducible refine blD ?_) | (with_reducible refine blN ?_) | ((with_reducible refine blS ?_ ?_); (focus (first | omega | (simp <;> omega)))) | ((with_reducible refine blT (by assumption) ?_ ?_); (focus (first | omega | (simp <;> omega)))))
    | false =>
      obtain ⟨rfl, rfl⟩ := hno rfl
      clear hno hv
      go_wp2_with fail
      have b1 := B1.out
      refine bodyPost_ret (v := .tuple #[.agg #[.int .i64 0, .int .i64 0], .bool false]) (by go_light; simp [results, Try.results55, go_sem, *]) rfl ⟨rfl, ?_⟩
      repeat (first | with_reducible exact Below.refl _ _ | with_reducible assumption | ((with_reducible refine blA ?_ ?_); (focus (first | omega | (simp <;> omega)))) | (with_reducible refine blD ?_) | (with_reducible refine blN ?_) | ((with_reducible refine blS ?_ ?_); (focus (first | omega | (simp <;> omega)))) | ((with_reducible refine blT (by assumption) ?_ ?_); (focus (first | omega | (simp <;> omega)))))
  · go_enter Try.func55, Try.ntmps55
    go_wp2_with (first | (go_at_call 46; refine (cyDisc_any _ _ hd).mono ?_; rintro e w' ⟨rfl, rfl⟩))
    refine bodyPost_ret (v := .tuple #[.agg #[.int .i64 0, .int .i64 0], .bool false]) (by go_light; simp [results, Try.results55, go_sem, *]) rfl ⟨rfl, ?_⟩
    repeat (first | with_reducible exact Below.refl _ _ | with_reducible assumption | ((with_reducible refine blA ?_ ?_); (focus (first | omega | (simp <;> omega)))) | (with_reducible refine blD ?_) | (with_reducible refine blN ?_) | ((with_reducible refine blS ?_ ?_); (focus (first | omega | (simp <;> omega)))) | ((with_reducible refine blT (by assumption) ?_ ?_); (focus (first | omega | (simp <;> omega)))))
theorem unMinus_yes (T U t u : Int) (w : World) (hT : T ≤ 100000000) (hU : U ≤ 1000000) (ht : 0 < t) (hu : 0 < u) (h1 : t * t + 2 = T) (h2 : t * u = U) :
    Calls Try.prog 56 #[.agg #[.int .i64 T, .int .i64 U]] w fun en w' => en = .returned (.tuple #[.agg #[.int .i64 t, .int .i64 u], .bool true]) ∧ Below w.heap.size w w' := by
  obtain ⟨l1, l2⟩ := le_mul_pos ht hu
  have hp := Int.mul_pos ht ht
  have hsq : isqrt (T - 2) = t := isqrt_unique (by omega) (by omega) (by
    have e : (t + 1) * (t + 1) = t * t + 2 * t + 1 := by grind
    omega)
  have hrt : Hid (∀ w1, Calls Try.prog 106 #[.int .i64 (T - 2)] w1 fun e w' => e = .returned (.int .i64 t) ∧ w1 = w') := Lib.hid fun w1 => by
    have := nuRoot_any (T - 2) w1 (by omega) (by omega)
    rwa [hsq] at this
  have hT2 : wrap64 (T - 2) = T - 2 := by unfold wrap64; omega
  have htt : t * t = T - 2 := by omega
  have hn : ¬ t = 0 := by omega
  have hn' : (t == 0) = false := by simp [hn]
  have hm : U.tmod t = 0 := by rw [← h2]; exact Int.mul_tmod_right ..
  have hq : U.tdiv t = u := by rw [← h2]; exact Int.mul_tdiv_cancel_left _ (by omega)
  have hwu : wrap64 u = u := by unfold wrap64; omega
  clear h1 h2 hsq l1 l2 hp ht hu
  go_enter Try.func56, Try.ntmps56
  go_wp2_with (first | (go_at_call 106; refine (hrt.out _).mono ?_; rintro e w' ⟨rfl, rfl⟩))
  refine bodyPost_ret (v := .tuple #[.agg #[.int .i64 t, .int .i64 u], .bool true]) (by go_light; simp [results, Try.results56, go_sem, *]) rfl ⟨rfl, ?_⟩
  repeat (first | with_reducible exact Below.refl _ _ | with_reducible assumption | ((with_reducible refine blA ?_ ?_); (focus (first | omega | (simp <;> omega)))) | (with_reducible refine blD ?_) | (with_reducible refine blN ?_) | ((with_reducible refine blS ?_ ?_); (focus (first | omega | (simp <;> omega)))) | ((with_reducible refine blT (by assumption) ?_ ?_); (focus (first | omega | (simp <;> omega)))))
theorem unMinus_no (T U : Int) (w : World) (hT3 : 3 ≤ T) (hT : T ≤ 100000000) (hU1 : 1 ≤ U) (hU : U ≤ 1000000) (h : ∀ t u, 0 < t → 0 < u → t * t + 2 = T → t * u = U → False) :
    Calls Try.prog 56 #[.agg #[.int .i64 T, .int .i64 U]] w fun en w' => en = .returned (.tuple #[.agg #[.int .i64 0, .int .i64 0], .bool false]) ∧ Below w.heap.size w w' := by
  obtain ⟨s0, s1, s2⟩ := isqrt_spec (n := T - 2) (by omega)
  obtain ⟨t, ht⟩ : ∃ t, isqrt (T - 2) = t := ⟨_, rfl⟩
  rw [ht] at s0 s1 s2
  have ht1 : 0 < t := by
    rcases (show 0 < t ∨ t = 0 by omega) with h | h
    · exact h
    · rw [h] at s2; omega
  have hrt : Hid (∀ w1, Calls Try.prog 106 #[.int .i64 (T - 2)] w1 fun e w' => e = .returned (.int .i64 t) ∧ w1 = w') := Lib.hid fun w1 => by
    have := nuRoot_any (T - 2) w1 (by omega) (by omega)
    rwa [ht] at this
  have hT2 : wrap64 (T - 2) = T - 2 := by unfold wrap64; omega
  have htw : wrap64 (t * t) = t * t := by have := Int.mul_pos ht1 ht1; unfold wrap64; omega
  have hn : ¬ t = 0 := by omega
  have hn' : (t == 0) = false := by simp [hn]
  by_cases htt : t * t = T - 2
  · have hm : (U % t != 0) = true := by
      rw [bne_iff_ne]
      intro hm
      obtain ⟨u, hu⟩ := Int.dvd_of_emod_eq_zero hm
      exact h t u ht1 (by
        rcases (show 0 < u ∨ u ≤ 0 by omega) with h | h
        · exact h
        · have := Int.mul_nonneg (show 0 ≤ t by omega) (show 0 ≤ -u by omega)
          rw [Int.mul_neg] at this
          omega) (by omega) hu.symm
    clear h s0 s1 s2 ht htw ht1
    go_enter Try.func56, Try.ntmps56
    go_wp2_with (first | (go_at_call 106; refine (hrt.out _).mono ?_; rintro e w' ⟨rfl, rfl⟩))
    refine bodyPost_ret (v := .tuple #[.agg #[.int .i64 0, .int .i64 0], .bool false]) (by go_light; simp [results, Try.results56, go_sem, *]) rfl ⟨rfl, ?_⟩
    repeat (first | with_reducible exact Below.refl _ _ | with_reducible assumption | ((with_reducible refine blA ?_ ?_); (focus (first | omega | (simp <;> omega)))) | (with_reducible refine blD ?_) | (with_reducible refine blN ?_) | ((with_reducible refine blS ?_ ?_); (focus (first | omega | (simp <;> omega)))) | ((with_reducible refine blT (by assumption) ?_ ?_); (focus (first | omega | (simp <;> omega)))))
  · clear h s0 s1 s2 ht ht1
    go_enter Try.func56, Try.ntmps56
    go_wp2_with (first | (go_at_call 106; refine (hrt.out _).mono ?_; rintro e w' ⟨rfl, rfl⟩))
    refine bodyPost_ret (v := .tuple #[.agg #[.int .i64 0, .int .i64 0], .bool false]) (by go_light; simp [results, Try.results56, go_sem, *]) rfl ⟨rfl, ?_⟩
    repeat (first | with_reducible exact Below.refl _ _ | with_reducible assumption | ((with_reducible refine blA ?_ ?_); (focus (first | omega | (simp <;> omega)))) | (with_reducible refine blD ?_) | (with_reducible refine blN ?_) | ((with_reducible refine blS ?_ ?_); (focus (first | omega | (simp <;> omega)))) | ((with_reducible refine blT (by assumption) ?_ ?_); (focus (first | omega | (simp <;> omega)))))
theorem pm_some {d T U t u : Int} {ok : Bool} (hm : PMn d T U t u ok) : (ok = true ∧ 0 < t ∧ 0 < u ∧ t * t + 2 = T ∧ t * u = U ∧ t * t - d * u * u = -4) ∨ (ok = false ∧ t = 0 ∧ u = 0 ∧ ∀ t' u', 0 < t' → 0 < u' → t' * t' - d * u' * u' ≠ -4) := by
  rcases hm with ⟨h1, ⟨h2, h3, h4⟩, h5, h6⟩ | ⟨h1, h2, h3, h4⟩
  · exact .inl ⟨h1, h2, h3, h6, h5, by rw [Int.mul_assoc]; exact h4⟩
  · exact .inr ⟨h1, h2, h3, fun t' u' k1 k2 k3 => h4 t' u' ⟨k1, k2, by rw [Int.mul_assoc] at k3; exact k3⟩⟩
theorem norm_W {d t u : Int} (hd : posB d = true) (h : smallB t u = true) : wrap64 (t * t) = t * t ∧ wrap64 (d * u) = d * u ∧ wrap64 (d * u * u) = d * u * u ∧ wrap64 (t * t - d * u * u) = t * t - d * u * u := by
  obtain ⟨⟨a1, a2⟩, ⟨b1, b2⟩, ⟨c1, c2⟩, ⟨e1, e2⟩⟩ := norm_bd hd h
  refine ⟨?_, ?_, ?_, ?_⟩ <;> (unfold wrap64; omega)
set_option maxHeartbeats 4000000 in
theorem specPellMinusFour_any (d t u : Int) (ok : Bool) (w : World) (hd : I64 d) (h : PM d t u ok) :
    Calls Try.prog 13 #[.int .i64 d] w fun en w' => en = .returned (.tuple #[.agg #[.int .i64 t, .int .i64 u], .bool ok]) ∧ Below w.heap.size w w' := by
  obtain ⟨T, U, okf, hf, h⟩ := h
  have hcall := Lib.hid fun w1 => specPellFour_any d T U okf w1 hd hf
  rcases h with ⟨rfl, hm⟩ | ⟨rfl, rfl, rfl, rfl⟩
  · obtain ⟨hp, hL, hSm⟩ := hf.true
    obtain ⟨d1, d2⟩ := posB_true hp
    obtain ⟨hs1, hs2, hs3⟩ := hL.1
    obtain ⟨hm1, hm2⟩ := hSm
    rcases pm_some hm with ⟨rfl, t0, u0, e1, e2, e3⟩ | ⟨rfl, rfl, rfl, hno⟩
    · have hmn := Lib.hid fun w1 => unMinus_yes T U t u w1 hm1 hm2 t0 u0 e1 e2
      have hsm : smallB t u = true := by
        obtain ⟨k1, k2⟩ := le_mul_pos t0 t0
        obtain ⟨k3, k4⟩ := le_mul_pos t0 u0
        exact (smallB_pos t0 u0).2 ⟨by omega, by omega⟩
      obtain ⟨w1, w2, w3, w4⟩ := norm_W hp hsm
      clear hm hL hf e1 e2 hs3 hsm
      go_enter Try.func13, Try.ntmps13
      go_wp2_with (first | (go_at_call 55; refine (hcall.out _).mono ?_; rintro e w' ⟨rfl, hB⟩; obtain ⟨hC, hF⟩ := bcell hB; have hS := hB.size; (try simp at hS); (try have hSl := Nat.lt_of_succ_le hS); (try have hS0 : w.heap.size < w'.heap.size := by omega); (try have hS1 : w.heap.size + 1 < w'.heap.size := by omega); (try have hS2 : w.heap.size + 1 + 1 < w'.heap.size := by omega); (try have hS3 : w.heap.size + 1 + 1 + 1 < w'.heap.size := by omega)))
      have hk := ((Blk.new w 27 #[.int .i64 0, .int .i64 0]).below hB).alloc (.cells #[.int .i64 T, .int .i64 U] 27)
      have hb : Below w.heap.size w (w'.alloc (.cells #[.int .i64 T, .int .i64 U] 27)) := by repeat (first | with_reducible exact Below.refl _ _ | with_reducible assumption | ((with_reducible refine blA ?_ ?_); (focus (first | omega | (simp <;> omega)))) | (with_reducible refine blD ?_) | (with_reducible refine blN ?_) | ((with_reducible refine blS ?_ ?_); (focus (first | omega | (simp <;> omega)))) | ((with_reducible refine blT (by assumption) ?_ ?_); (focus (first | omega | (simp <;> omega)))))
      refine (hmn.out _).mono ?_
      rintro e2 w2 ⟨rfl, hB2⟩
      have hk2 := hk.below hB2
      have K2 := Lib.hid (show Below w.heap.size w w2 from hb.trans (hB2.mono hb.size))
      have c2 := hk2.cell
      have f2 := hk2.froz
      have l2 := hk2.lt
      have nK : ¬ w.heap.size = w2.heap.size := by omega
      have nK' : ¬ w2.heap.size = w.heap.size := by omega
      clear hk hb hk2 hB2 hB hC hF hcall
      go_wp2_with fail
      have b2 := K2.out
      refine bodyPost_ret (v := .tuple #[.agg #[.int .i64 t, .int .i64 u], .bool true]) (by go_light; simp [results, Try.results13, go_sem, *]) rfl ⟨rfl, ?_⟩
      repeat (first | with_reducible exact Below.refl _ _ | with_reducible assumption | ((with_reducible refine blA ?_ ?_); (focus (first | omega | (simp <;> omega)))) | (with_reducible refine blD ?_) | (with_reducible refine blN ?_) | ((with_reducible refine blS ?_ ?_); (focus (first | omega | (simp <;> omega)))) | ((with_reducible refine blT (by assumption) ?_ ?_); (focus (first | omega | (simp <;> omega)))))
    · have hT3 : 3 ≤ T := by
        have h1 := Int.mul_pos hs2 hs2
        have h2 := Int.mul_le_mul d1 (show 1 ≤ U * U by omega) (by omega) (by omega)
        refine Int.le_of_not_gt fun h => ?_
        have h3 := Int.mul_le_mul (show T ≤ 2 by omega) (show T ≤ 2 by omega) (by omega) (by omega)
        omega
      by_cases hex : ∃ t u, 0 < t ∧ 0 < u ∧ t * t + 2 = T ∧ t * u = U
      · obtain ⟨t, u, t0, u0, e1, e2⟩ := hex
        have hmn := Lib.hid fun w1 => unMinus_yes T U t u w1 hm1 hm2 t0 u0 e1 e2
        have hsm : smallB t u = true := by
          obtain ⟨k1, k2⟩ := le_mul_pos t0 t0
          obtain ⟨k3, k4⟩ := le_mul_pos t0 u0
          exact (smallB_pos t0 u0).2 ⟨by omega, by omega⟩
        obtain ⟨w1, w2, w3, w4⟩ := norm_W hp hsm
        have e3 := hno t u t0 u0
        clear hm hL hf e1 e2 hs3 hsm hno hT3
        go_enter Try.func13, Try.ntmps13
        go_wp2_with (first | (go_at_call 55; refine (hcall.out _).mono ?_; rintro e w' ⟨rfl, hB⟩; obtain ⟨hC, hF⟩ := bcell hB; have hS := hB.size; (try simp at hS); (try have hSl := Nat.lt_of_succ_le hS); (try have hS0 : w.heap.size < w'.heap.size := by omega); (try have hS1 : w.heap.size + 1 < w'.heap.size := by omega); (try have hS2 : w.heap.size + 1 + 1 < w'.heap.size := by omega); (try have hS3 : w.heap.size + 1 + 1 + 1 < w'.heap.size := by omega)))
        have hk := ((Blk.new w 27 #[.int .i64 0, .int .i64 0]).below hB).alloc (.cells #[.int .i64 T, .int .i64 U] 27)
        have hb : Below w.heap.size w (w'.alloc (.cells #[.int .i64 T, .int .i64 U] 27)) := by repeat (first | with_reducible exact Below.refl _ _ | with_reducible assumption | ((with_reducible refine blA ?_ ?_); (focus (first | omega | (simp <;> omega)))) | (with_reducible refine blD ?_) | (with_reducible refine blN ?_) | ((with_reducible refine blS ?_ ?_); (focus (first | omega | (simp <;> omega)))) | ((with_reducible refine blT (by assumption) ?_ ?_); (focus (first | omega | (simp <;> omega)))))
        refine (hmn.out _).mono ?_
        rintro e2 w2 ⟨rfl, hB2⟩
        have hk2 := hk.below hB2
        have K2 := Lib.hid (show Below w.heap.size w w2 from hb.trans (hB2.mono hb.size))
        have c2 := hk2.cell
        have f2 := hk2.froz
        have l2 := hk2.lt
        have nK : ¬ w.heap.size = w2.heap.size := by omega
        have nK' : ¬ w2.heap.size = w.heap.size := by omega
        clear hk hb hk2 hB2 hB hC hF hcall
        go_wp2_with fail
        have b2 := K2.out
        refine bodyPost_ret (v := .tuple #[.agg #[.int .i64 0, .int .i64 0], .bool false]) (by go_light; simp [results, Try.results13, go_sem, *]) rfl ⟨rfl, ?_⟩
        repeat (first | with_reducible exact Below.refl _ _ | with_reducible assumption | ((with_reducible refine blA ?_ ?_); (focus (first | omega | (simp <;> omega)))) | (with_reducible refine blD ?_) | (with_reducible refine blN ?_) | ((with_reducible refine blS ?_ ?_); (focus (first | omega | (simp <;> omega)))) | ((with_reducible refine blT (by assumption) ?_ ?_); (focus (first | omega | (simp <;> omega)))))
      · have hmn := Lib.hid fun w1 => unMinus_no T U w1 hT3 hm1 (by omega) hm2 (fun t u h1 h2 h3 h4 => hex ⟨t, u, h1, h2, h3, h4⟩)
        clear hm hL hf hs3 hno hT3 hex
        go_enter Try.func13, Try.ntmps13
        go_wp2_with (first | (go_at_call 55; refine (hcall.out _).mono ?_; rintro e w' ⟨rfl, hB⟩; obtain ⟨hC, hF⟩ := bcell hB; have hS := hB.size; (try simp at hS); (try have hSl := Nat.lt_of_succ_le hS); (try have hS0 : w.heap.size < w'.heap.size := by omega); (try have hS1 : w.heap.size + 1 < w'.heap.size := by omega); (try have hS2 : w.heap.size + 1 + 1 < w'.heap.size := by omega); (try have hS3 : w.heap.size + 1 + 1 + 1 < w'.heap.size := by omega)))
        have hk := ((Blk.new w 27 #[.int .i64 0, .int .i64 0]).below hB).alloc (.cells #[.int .i64 T, .int .i64 U] 27)
        have hb : Below w.heap.size w (w'.alloc (.cells #[.int .i64 T, .int .i64 U] 27)) := by repeat (first | with_reducible exact Below.refl _ _ | with_reducible assumption | ((with_reducible refine blA ?_ ?_); (focus (first | omega | (simp <;> omega)))) | (with_reducible refine blD ?_) | (with_reducible refine blN ?_) | ((with_reducible refine blS ?_ ?_); (focus (first | omega | (simp <;> omega)))) | ((with_reducible refine blT (by assumption) ?_ ?_); (focus (first | omega | (simp <;> omega)))))
        refine (hmn.out _).mono ?_
        rintro e2 w2 ⟨rfl, hB2⟩
        have hk2 := hk.below hB2
        have K2 := Lib.hid (show Below w.heap.size w w2 from hb.trans (hB2.mono hb.size))
        have c2 := hk2.cell
        have f2 := hk2.froz
        have l2 := hk2.lt
        have nK : ¬ w.heap.size = w2.heap.size := by omega
        have nK' : ¬ w2.heap.size = w.heap.size := by omega
        clear hk hb hk2 hB2 hB hC hF hcall
        go_wp2_with fail
        have b2 := K2.out
        refine bodyPost_ret (v := .tuple #[.agg #[.int .i64 0, .int .i64 0], .bool false]) (by go_light; simp [results, Try.results13, go_sem, *]) rfl ⟨rfl, ?_⟩
        repeat (first | with_reducible exact Below.refl _ _ | with_reducible assumption | ((with_reducible refine blA ?_ ?_); (focus (first | omega | (simp <;> omega)))) | (with_reducible refine blD ?_) | (with_reducible refine blN ?_) | ((with_reducible refine blS ?_ ?_); (focus (first | omega | (simp <;> omega)))) | ((with_reducible refine blT (by assumption) ?_ ?_); (focus (first | omega | (simp <;> omega)))))
  · go_enter Try.func13, Try.ntmps13
    go_wp2_with (first | (go_at_call 55; refine (hcall.out _).mono ?_; rintro e w' ⟨rfl, hB⟩; obtain ⟨hC, hF⟩ := bcell hB; have hS := hB.size; (try simp at hS); (try have hSl := Nat.lt_of_succ_le hS); (try have hS0 : w.heap.size < w'.heap.size := by omega); (try have hS1 : w.heap.size + 1 < w'.heap.size := by omega); (try have hS2 : w.heap.size + 1 + 1 < w'.heap.size := by omega); (try have hS3 : w.heap.size + 1 + 1 + 1 < w'.heap.size := by omega)))
    refine bodyPost_ret (v := .tuple #[.agg #[.int .i64 0, .int .i64 0], .bool false]) (by go_light; simp [results, Try.results13, go_sem, *]) rfl ⟨rfl, ?_⟩
    repeat (first | with_reducible exact Below.refl _ _ | with_reducible assumption | ((with_reducible refine blA ?_ ?_); (focus (first | omega | (simp <;> omega)))) | (with_reducible refine blD ?_) | (with_reducible refine blN ?_) | ((with_reducible refine blS ?_ ?_); (focus (first | omega | (simp <;> omega)))) | ((with_reducible refine blT (by assumption) ?_ ?_); (focus (first | omega | (simp <;> omega)))))
set_option maxHeartbeats 8000000 in
theorem specPellOne_any (n t u : Int) (ok : Bool) (w : World) (hn : I64 n) (h : PO n t u ok) :
    Calls Try.prog 18 #[.int .i64 n] w fun en w' => en = .returned (.tuple #[.agg #[.int .i64 t, .int .i64 u], .bool ok]) ∧ Below w.heap.size w w' := by
  rcases h with ⟨hb, T, hf, rfl⟩ | ⟨hb, rfl, rfl, rfl⟩
  · obtain ⟨hp, n1, n2, hs⟩ := po_pos hb
    have hsq : Hid (∀ w1, Calls Try.prog 64 #[.int .i64 n] w1 fun e w' => e = .returned (.bool false) ∧ w1 = w') := Lib.hid fun w1 => by have := nuSquare_any n w1 (by omega); rwa [hs] at this
    have hin : Hid (∀ w1, Calls Try.prog 47 #[.int .i64 n, .int .i64 2, .int .i64 250] w1 fun e w' => e = .returned (.bool true) ∧ w1 = w') := Lib.hid fun w1 => by
      have := l1In_any n 2 250 w1
      rwa [show inB n 2 250 = true by unfold inB; simp; omega] at this
    have hcall := Lib.hid fun w1 => specPellFour_any (4 * n) T u ok w1 (by unfold I64; omega) (.inl ⟨hp, hf⟩)
    have hw4 : wrap64 (4 * n) = 4 * n := by unfold wrap64; omega
    have hT : wrap64 (T.tdiv 2) = T.tdiv 2 := by
      have : 0 ≤ T ∧ T ≤ 100000000 := by
        rcases hf with ⟨_, h1, h2⟩ | ⟨_, rfl, _, _⟩
        · have := h1.1.1; have := h2.1; omega
        · omega
      have e : T.tdiv 2 = T / 2 := Int.tdiv_eq_ediv_of_nonneg this.1
      rw [e]; unfold wrap64; omega
    have hno : ok = false → T = 0 ∧ u = 0 := by
      rcases hf with ⟨rfl, _⟩ | ⟨_, h1, h2, _⟩
      · intro h; cases h
      · exact fun _ => ⟨h1, h2⟩
    clear hf hb
    cases ok with
    | true =>
      clear hno
      go_enter Try.func18, Try.ntmps18
      go_wp2_with (first | (go_at_call 47; refine (hin.out _).mono ?_; rintro e w' ⟨rfl, rfl⟩) | (go_at_call 64; refine (hsq.out _).mono ?_; rintro e w' ⟨rfl, rfl⟩) | (go_at_call 55; refine (hcall.out _).mono ?_; rintro e w' ⟨rfl, hB⟩; obtain ⟨hC, hF⟩ := bcell hB; have hS := hB.size; (try simp at hS); (try have hSl := Nat.lt_of_succ_le hS); (try have hS0 : w.heap.size < w'.heap.size := by omega); (try have hS1 : w.heap.size + 1 < w'.heap.size := by omega); (try have hS2 : w.heap.size + 1 + 1 < w'.heap.size := by omega); (try have hS3 : w.heap.size + 1 + 1 + 1 < w'.heap.size := by omega)))
      refine bodyPost_ret (v := .tuple #[.agg #[.int .i64 (T.tdiv 2), .int .i64 u], .bool true]) (by go_light; simp [results, Try.results18, go_sem, *]) rfl ⟨rfl, ?_⟩
      repeat (first | with_reducible exact Below.refl _ _ | with_reducible assumption | ((with_reducible refine blA ?_ ?_); (focus (first | omega | (simp <;> omega)))) | (with_reducible refine blD ?_) | (with_reducible refine blN ?_) | ((with_reducible refine blS ?_ ?_); (focus (first | omega | (simp <;> omega)))) | ((with_reducible refine blT (by assumption) ?_ ?_); (focus (first | omega | (simp <;> omega)))))
    | false =>
      obtain ⟨rfl, rfl⟩ := hno rfl
      clear hno
      go_enter Try.func18, Try.ntmps18
      go_wp2_with (first | (go_at_call 47; refine (hin.out _).mono ?_; rintro e w' ⟨rfl, rfl⟩) | (go_at_call 64; refine (hsq.out _).mono ?_; rintro e w' ⟨rfl, rfl⟩) | (go_at_call 55; refine (hcall.out _).mono ?_; rintro e w' ⟨rfl, hB⟩; obtain ⟨hC, hF⟩ := bcell hB; have hS := hB.size; (try simp at hS); (try have hSl := Nat.lt_of_succ_le hS); (try have hS0 : w.heap.size < w'.heap.size := by omega); (try have hS1 : w.heap.size + 1 < w'.heap.size := by omega); (try have hS2 : w.heap.size + 1 + 1 < w'.heap.size := by omega); (try have hS3 : w.heap.size + 1 + 1 + 1 < w'.heap.size := by omega)))
      refine bodyPost_ret (v := .tuple #[.agg #[.int .i64 0, .int .i64 0], .bool false]) (by go_light; simp [results, Try.results18, go_sem, *]) rfl ⟨rfl, ?_⟩
      repeat (first | with_reducible exact Below.refl _ _ | with_reducible assumption | ((with_reducible refine blA ?_ ?_); (focus (first | omega | (simp <;> omega)))) | (with_reducible refine blD ?_) | (with_reducible refine blN ?_) | ((with_reducible refine blS ?_ ?_); (focus (first | omega | (simp <;> omega)))) | ((with_reducible refine blT (by assumption) ?_ ?_); (focus (first | omega | (simp <;> omega)))))
  · cases hi : inB n 2 250 with
    | true =>
      have h2 : 2 ≤ n ∧ n ≤ 250 := by unfold inB at hi; simpa using hi
      have hs : sqB n = true := by
        unfold poB at hb
        cases h : sqB n
        · rw [h] at hb
          simp at hb
          omega
        · rfl
      have hsq : Hid (∀ w1, Calls Try.prog 64 #[.int .i64 n] w1 fun e w' => e = .returned (.bool true) ∧ w1 = w') := Lib.hid fun w1 => by have := nuSquare_any n w1 (by omega); rwa [hs] at this
      have hin : Hid (∀ w1, Calls Try.prog 47 #[.int .i64 n, .int .i64 2, .int .i64 250] w1 fun e w' => e = .returned (.bool true) ∧ w1 = w') := Lib.hid fun w1 => by
        have := l1In_any n 2 250 w1
        rwa [hi] at this
      go_enter Try.func18, Try.ntmps18
      go_wp2_with (first | (go_at_call 47; refine (hin.out _).mono ?_; rintro e w' ⟨rfl, rfl⟩) | (go_at_call 64; refine (hsq.out _).mono ?_; rintro e w' ⟨rfl, rfl⟩))
      refine bodyPost_ret (v := .tuple #[.agg #[.int .i64 0, .int .i64 0], .bool false]) (by go_light; simp [results, Try.results18, go_sem, *]) rfl ⟨rfl, ?_⟩
      repeat (first | with_reducible exact Below.refl _ _ | with_reducible assumption | ((with_reducible refine blA ?_ ?_); (focus (first | omega | (simp <;> omega)))) | (with_reducible refine blD ?_) | (with_reducible refine blN ?_) | ((with_reducible refine blS ?_ ?_); (focus (first | omega | (simp <;> omega)))) | ((with_reducible refine blT (by assumption) ?_ ?_); (focus (first | omega | (simp <;> omega)))))
    | false =>
      have hin : Hid (∀ w1, Calls Try.prog 47 #[.int .i64 n, .int .i64 2, .int .i64 250] w1 fun e w' => e = .returned (.bool false) ∧ w1 = w') := Lib.hid fun w1 => by
        have := l1In_any n 2 250 w1
        rwa [hi] at this
      go_enter Try.func18, Try.ntmps18
      go_wp2_with (first | (go_at_call 47; refine (hin.out _).mono ?_; rintro e w' ⟨rfl, rfl⟩))
      refine bodyPost_ret (v := .tuple #[.agg #[.int .i64 0, .int .i64 0], .bool false]) (by go_light; simp [results, Try.results18, go_sem, *]) rfl ⟨rfl, ?_⟩
      repeat (first | with_reducible exact Below.refl _ _ | with_reducible assumption | ((with_reducible refine blA ?_ ?_); (focus (first | omega | (simp <;> omega)))) | (with_reducible refine blD ?_) | (with_reducible refine blN ?_) | ((with_reducible refine blS ?_ ?_); (focus (first | omega | (simp <;> omega)))) | ((with_reducible refine blT (by assumption) ?_ ?_); (focus (first | omega | (simp <;> omega)))))
end Go.Proofs.Ytemnkfigjpphgaa
