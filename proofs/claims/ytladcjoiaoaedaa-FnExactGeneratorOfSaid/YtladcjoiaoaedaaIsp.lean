/-
  IsPrimeIdeal: both ways.
-/
import Derived.Test.YtladcjoiaoaedaaPrm
import Derived.Test.YtladcjoiaoaedaaMix
namespace Go.Proofs.Ytladcjoiaoaedaa
open Go.RowKit
attribute [local simp, local go_sem] past_cell past_frozen past_tape
def ipB (d e a b : Int) : Bool := if e = 1 then primeB a else decide (a = 1) && (primeB e && decide (rtA d e = []))
def ipR (d e a b : Int) : Bool := fnB d && idB d e a b && ipB d e a b
theorem isWholeI_any (d e a b : Int) (w : World) (hd : I64 d) : Calls Try.prog 42 #[.int .i64 d, .agg #[.int .i64 e, .int .i64 a, .int .i64 b]] w fun en w' => en = .returned (.bool (fnB d && idB d e a b)) ∧ Below w.heap.size w w' := by
  cases c : fnB d
  · go_enter Try.func42, Try.ntmps42
    go_wp2_with (first | (go_at_call 38; refine (isFundNeg_any _ _ hd).mono ?_; rintro e w' ⟨rfl, rfl⟩))
    (refine bodyPost_ret (v := .bool false) ?_ rfl ⟨?_, ?_⟩; (focus (go_light; first | (simp [results, Try.results42, go_sem, *]; done) | (simp (disch := first | omega | (simp <;> omega) | (refine isSome_of ?_ ?_; (focus ((repeat (first | ((with_reducible refine (cell_alloc_old _ _ _ _ ?_).trans ?_); (focus (first | omega | (simp <;> omega)))) | ((with_reducible refine (bG (by assumption) ?_).trans ?_); (focus (first | omega | (simp <;> omega)))))); exact rfl)); simp [go_sem]) | fail) [results, Try.results42, go_sem, *]; done))); (focus (go_light; rw [Bool.false_and])); repeat (first | with_reducible exact Below.refl _ _ | with_reducible assumption | ((with_reducible refine blA ?_ ?_); (focus (first | omega | (simp <;> omega)))) | (with_reducible refine blD ?_) | (with_reducible refine blN ?_) | ((with_reducible refine blS ?_ ?_); (focus (first | omega | (simp <;> omega)))) | ((with_reducible refine blT (by assumption) ?_ ?_); (focus (first | omega | (simp <;> omega))))))
  · go_enter Try.func42, Try.ntmps42
    go_wp2_with (first | (go_at_call 38; refine (isFundNeg_any _ _ hd).mono ?_; rintro e w' ⟨rfl, rfl⟩) | (go_at_call 49; refine (isIdeal_any _ _ _ _ _ hd).mono ?_; rintro e w' ⟨rfl, hB⟩; obtain ⟨hC, hF⟩ := bcell hB; have hS := hB.size; (try simp at hS); (try have hSl := Nat.lt_of_succ_le hS); (try have hS0 : w.heap.size < w'.heap.size := by omega); (try have hS1 : w.heap.size + 1 < w'.heap.size := by omega); (try have hS2 : w.heap.size + 1 + 1 < w'.heap.size := by omega); (try have hS3 : w.heap.size + 1 + 1 + 1 < w'.heap.size := by omega)))
    (refine bodyPost_ret (v := .bool (idB d e a b)) ?_ rfl ⟨?_, ?_⟩; (focus (go_light; first | (simp [results, Try.results42, go_sem, *]; done) | (simp (disch := first | omega | (simp <;> omega) | (refine isSome_of ?_ ?_; (focus ((repeat (first | ((with_reducible refine (cell_alloc_old _ _ _ _ ?_).trans ?_); (focus (first | omega | (simp <;> omega)))) | ((with_reducible refine (bG (by assumption) ?_).trans ?_); (focus (first | omega | (simp <;> omega)))))); exact rfl)); simp [go_sem]) | fail) [results, Try.results42, go_sem, *]; done))); (focus (go_light; rw [Bool.true_and])); repeat (first | with_reducible exact Below.refl _ _ | with_reducible assumption | ((with_reducible refine blA ?_ ?_); (focus (first | omega | (simp <;> omega)))) | (with_reducible refine blD ?_) | (with_reducible refine blN ?_) | ((with_reducible refine blS ?_ ?_); (focus (first | omega | (simp <;> omega)))) | ((with_reducible refine blT (by assumption) ?_ ?_); (focus (first | omega | (simp <;> omega))))))
theorem piGoodI_any (d e a b : Int) (w : World) (hd : I64 d) : Calls Try.prog 40 #[.int .i64 d, .agg #[.int .i64 e, .int .i64 a, .int .i64 b]] w fun en w' => en = .returned (.bool (fnB d && idB d e a b)) ∧ Below w.heap.size w w' := by
  cases c : fnB d
  · go_enter Try.func40, Try.ntmps40
    go_wp2_with (first | (go_at_call 35; refine (piDisc_any _ _ hd).mono ?_; rintro e w' ⟨rfl, rfl⟩))
    (refine bodyPost_ret (v := .bool false) ?_ rfl ⟨?_, ?_⟩; (focus (go_light; first | (simp [results, Try.results40, go_sem, *]; done) | (simp (disch := first | omega | (simp <;> omega) | (refine isSome_of ?_ ?_; (focus ((repeat (first | ((with_reducible refine (cell_alloc_old _ _ _ _ ?_).trans ?_); (focus (first | omega | (simp <;> omega)))) | ((with_reducible refine (bG (by assumption) ?_).trans ?_); (focus (first | omega | (simp <;> omega)))))); exact rfl)); simp [go_sem]) | fail) [results, Try.results40, go_sem, *]; done))); (focus (go_light; rw [Bool.false_and])); repeat (first | with_reducible exact Below.refl _ _ | with_reducible assumption | ((with_reducible refine blA ?_ ?_); (focus (first | omega | (simp <;> omega)))) | (with_reducible refine blD ?_) | (with_reducible refine blN ?_) | ((with_reducible refine blS ?_ ?_); (focus (first | omega | (simp <;> omega)))) | ((with_reducible refine blT (by assumption) ?_ ?_); (focus (first | omega | (simp <;> omega))))))
  · go_enter Try.func40, Try.ntmps40
    go_wp2_with (first | (go_at_call 35; refine (piDisc_any _ _ hd).mono ?_; rintro e w' ⟨rfl, rfl⟩) | (go_at_call 46; refine (idGood_any _ _ _ _ _ hd).mono ?_; rintro e w' ⟨rfl, hB⟩; obtain ⟨hC, hF⟩ := bcell hB; have hS := hB.size; (try simp at hS); (try have hSl := Nat.lt_of_succ_le hS); (try have hS0 : w.heap.size < w'.heap.size := by omega); (try have hS1 : w.heap.size + 1 < w'.heap.size := by omega); (try have hS2 : w.heap.size + 1 + 1 < w'.heap.size := by omega); (try have hS3 : w.heap.size + 1 + 1 + 1 < w'.heap.size := by omega)))
    (refine bodyPost_ret (v := .bool (idB d e a b)) ?_ rfl ⟨?_, ?_⟩; (focus (go_light; first | (simp [results, Try.results40, go_sem, *]; done) | (simp (disch := first | omega | (simp <;> omega) | (refine isSome_of ?_ ?_; (focus ((repeat (first | ((with_reducible refine (cell_alloc_old _ _ _ _ ?_).trans ?_); (focus (first | omega | (simp <;> omega)))) | ((with_reducible refine (bG (by assumption) ?_).trans ?_); (focus (first | omega | (simp <;> omega)))))); exact rfl)); simp [go_sem]) | fail) [results, Try.results40, go_sem, *]; done))); (focus (go_light; rw [Bool.true_and])); repeat (first | with_reducible exact Below.refl _ _ | with_reducible assumption | ((with_reducible refine blA ?_ ?_); (focus (first | omega | (simp <;> omega)))) | (with_reducible refine blD ?_) | (with_reducible refine blN ?_) | ((with_reducible refine blS ?_ ?_); (focus (first | omega | (simp <;> omega)))) | ((with_reducible refine blT (by assumption) ?_ ?_); (focus (first | omega | (simp <;> omega))))))
set_option maxHeartbeats 1000000 in
theorem isPrimeIdeal_any (d e a b : Int) (w : World) (hf : fnB d = true) (h : idB d e a b = true) : Calls Try.prog 43 #[.int .i64 d, .agg #[.int .i64 e, .int .i64 a, .int .i64 b]] w fun en w' => en = .returned (.bool (ipB d e a b)) ∧ Below w.heap.size w w' := by
  obtain ⟨hn, e1, e2, a1, a2, _, _, _⟩ := idB_true h
  obtain ⟨m1, m2, _⟩ := negB_true hn
  have h4 := fnB_res hf
  by_cases ce : e = 1
  · subst ce
    have HR : Hid (ipB d 1 a b = primeB a) := by show _ = _; rw [ipB, if_pos rfl]
    go_enter Try.func43, Try.ntmps43
    go_wp2_with (first | (go_at_call 52; refine (isPrime_any _ _ (by omega)).mono ?_; rintro e w' ⟨rfl, rfl⟩))
    (refine bodyPost_ret (v := .bool (primeB a)) ?_ rfl ⟨?_, ?_⟩; (focus (go_light; first | (simp [results, Try.results43, go_sem, *]; done) | (simp (disch := first | omega | (simp <;> omega) | (refine isSome_of ?_ ?_; (focus ((repeat (first | ((with_reducible refine (cell_alloc_old _ _ _ _ ?_).trans ?_); (focus (first | omega | (simp <;> omega)))) | ((with_reducible refine (bG (by assumption) ?_).trans ?_); (focus (first | omega | (simp <;> omega)))))); exact rfl)); simp [go_sem]) | fail) [results, Try.results43, go_sem, *]; done))); (focus (go_light; rw [HR.out])); repeat (first | with_reducible exact Below.refl _ _ | with_reducible assumption | ((with_reducible refine blA ?_ ?_); (focus (first | omega | (simp <;> omega)))) | (with_reducible refine blD ?_) | (with_reducible refine blN ?_) | ((with_reducible refine blS ?_ ?_); (focus (first | omega | (simp <;> omega)))) | ((with_reducible refine blT (by assumption) ?_ ?_); (focus (first | omega | (simp <;> omega))))))
  · have HC : Hid (ipB d e a b = (decide (a = 1) && (primeB e && decide (rtA d e = [])))) := by show _ = _; rw [ipB, if_neg ce]
    by_cases ca : a = 1
    · subst ca
      cases cp : primeB e with
      | false =>
        have HR : Hid (ipB d e 1 b = false) := by show _ = _; rw [HC.out, cp, Bool.false_and, Bool.and_false]
        clear HC
        go_enter Try.func43, Try.ntmps43
        go_wp2_with (first | (go_at_call 52; refine (isPrime_any _ _ (by omega)).mono ?_; rintro e w' ⟨rfl, rfl⟩))
        (refine bodyPost_ret (v := .bool false) ?_ rfl ⟨?_, ?_⟩; (focus (go_light; first | (simp [results, Try.results43, go_sem, *]; done) | (simp (disch := first | omega | (simp <;> omega) | (refine isSome_of ?_ ?_; (focus ((repeat (first | ((with_reducible refine (cell_alloc_old _ _ _ _ ?_).trans ?_); (focus (first | omega | (simp <;> omega)))) | ((with_reducible refine (bG (by assumption) ?_).trans ?_); (focus (first | omega | (simp <;> omega)))))); exact rfl)); simp [go_sem]) | fail) [results, Try.results43, go_sem, *]; done))); (focus (go_light; rw [HR.out])); repeat (first | with_reducible exact Below.refl _ _ | with_reducible assumption | ((with_reducible refine blA ?_ ?_); (focus (first | omega | (simp <;> omega)))) | (with_reducible refine blD ?_) | (with_reducible refine blN ?_) | ((with_reducible refine blS ?_ ?_); (focus (first | omega | (simp <;> omega)))) | ((with_reducible refine blT (by assumption) ?_ ?_); (focus (first | omega | (simp <;> omega))))))
      | true =>
        obtain ⟨q, rfl⟩ : ∃ q : Nat, e = q := ⟨e.toNat, by omega⟩
        have hk := kro_neg cp (by omega) h4
        have HR : Hid (ipB d q 1 b = decide (kro d q < 0)) := by show _ = _; rw [HC.out, cp, Bool.true_and, decide_eq_true rfl, Bool.true_and]; exact decide_eq_decide.2 hk.symm
        have hcall : Hid (∀ w0, Calls Try.prog 74 #[.int .i64 d, .int .i64 (q : Int)] w0 fun en w' => en = .returned (.int .i64 (kro d q)) ∧ w0 = w') := fun w0 => kronecker_any d q w0 ⟨by omega, by omega⟩ (by omega) (by omega)
        generalize kro d q = z at *
        clear HC hk
        go_enter Try.func43, Try.ntmps43
        go_wp2_with (first | (go_at_call 52; refine (isPrime_any _ _ (by omega)).mono ?_; rintro e w' ⟨rfl, rfl⟩) | (go_at_call 74; refine (hcall.out _).mono ?_; rintro e w' ⟨rfl, rfl⟩))
        (refine bodyPost_ret (v := .bool (decide (z < 0))) ?_ rfl ⟨?_, ?_⟩; (focus (go_light; first | (simp [results, Try.results43, go_sem, *]; done) | (simp (disch := first | omega | (simp <;> omega) | (refine isSome_of ?_ ?_; (focus ((repeat (first | ((with_reducible refine (cell_alloc_old _ _ _ _ ?_).trans ?_); (focus (first | omega | (simp <;> omega)))) | ((with_reducible refine (bG (by assumption) ?_).trans ?_); (focus (first | omega | (simp <;> omega)))))); exact rfl)); simp [go_sem]) | fail) [results, Try.results43, go_sem, *]; done))); (focus (go_light; rw [HR.out])); repeat (first | with_reducible exact Below.refl _ _ | with_reducible assumption | ((with_reducible refine blA ?_ ?_); (focus (first | omega | (simp <;> omega)))) | (with_reducible refine blD ?_) | (with_reducible refine blN ?_) | ((with_reducible refine blS ?_ ?_); (focus (first | omega | (simp <;> omega)))) | ((with_reducible refine blT (by assumption) ?_ ?_); (focus (first | omega | (simp <;> omega))))))
    · have HR : Hid (ipB d e a b = false) := by show _ = _; rw [HC.out, decide_eq_false ca, Bool.false_and]
      clear HC
      go_enter Try.func43, Try.ntmps43
      go_wp2
      (refine bodyPost_ret (v := .bool false) ?_ rfl ⟨?_, ?_⟩; (focus (go_light; first | (simp [results, Try.results43, go_sem, *]; done) | (simp (disch := first | omega | (simp <;> omega) | (refine isSome_of ?_ ?_; (focus ((repeat (first | ((with_reducible refine (cell_alloc_old _ _ _ _ ?_).trans ?_); (focus (first | omega | (simp <;> omega)))) | ((with_reducible refine (bG (by assumption) ?_).trans ?_); (focus (first | omega | (simp <;> omega)))))); exact rfl)); simp [go_sem]) | fail) [results, Try.results43, go_sem, *]; done))); (focus (go_light; rw [HR.out])); repeat (first | with_reducible exact Below.refl _ _ | with_reducible assumption | ((with_reducible refine blA ?_ ?_); (focus (first | omega | (simp <;> omega)))) | (with_reducible refine blD ?_) | (with_reducible refine blN ?_) | ((with_reducible refine blS ?_ ?_); (focus (first | omega | (simp <;> omega)))) | ((with_reducible refine blT (by assumption) ?_ ?_); (focus (first | omega | (simp <;> omega))))))
set_option maxRecDepth 100000 in
set_option maxHeartbeats 4000000 in
theorem piPrime_any (d e a b : Int) (w : World) (hf : fnB d = true) (h : idB d e a b = true) : Calls Try.prog 41 #[.int .i64 d, .agg #[.int .i64 e, .int .i64 a, .int .i64 b]] w fun en w' => en = .returned (.bool (ipB d e a b)) ∧ Below w.heap.size w w' := by
  obtain ⟨hn, e1, e2, a1, a2, b1, b2, b3⟩ := idB_true h
  obtain ⟨m1, m2, _⟩ := negB_true hn
  have h4 := fnB_res hf
  by_cases ca : a = 1
  · subst ca
    cases cp : primeB e with
    | false =>
      have HR : Hid (ipB d e 1 b = false) := by
        show _ = _
        unfold ipB
        split
        · exact primeB_lt (by omega)
        · rw [cp, Bool.false_and, Bool.and_false]
      have hcall : Hid (∀ w0, Calls Try.prog 50 #[.int .i64 e] w0 fun en w' => en = .returned (.bool false) ∧ w0 = w') := by
        show ∀ w0, _
        intro w0
        have := nuPrime_any e w0 (by omega)
        rwa [cp] at this
      clear cp
      go_enter Try.func41, Try.ntmps41
      go_wp2_with fail
      refine wp_region_past_tail 21 (by kernel_rfl) (by kernel_rfl) ?_
      simp only [List.take_succ_cons, List.take_zero, List.drop_succ_cons, List.drop_zero]
      repeat (first | go_big_quiet_skip | (go_big_quiet_want; go_big_quiet_op; first | go_big_quiet_on | (apply Exists.intro; refine ⟨fun _ => ?_, ?_⟩; (focus ((go_at_call 50; exact past_same (hcall.out _)))); go_big_quiet_on)))
      refine wpQuiet_nil ?_
      intro w1 hw'
      have hB1 := past_below hw'
      clear hw'
      obtain ⟨hC1, hF1⟩ := bcell hB1
      have hS1 := hB1.size
      (try simp at hS1)
      (try have hS1_w0 : w.heap.size < w1.heap.size := by omega)
      (try have hS1_w1 : w.heap.size + 1 < w1.heap.size := by omega)
      (try have hS1_w2 : w.heap.size + 1 + 1 < w1.heap.size := by omega)
      (try have hS1_w3 : w.heap.size + 1 + 1 + 1 < w1.heap.size := by omega)
      (try have hS1_w4 : w.heap.size + 1 + 1 + 1 + 1 < w1.heap.size := by omega)
      go_wp2
      (refine bodyPost_ret (v := .bool false) ?_ rfl ⟨?_, ?_⟩; (focus (go_light; first | (simp [results, Try.results41, go_sem, *]; done) | (simp (disch := first | omega | (simp <;> omega) | (refine isSome_of ?_ ?_; (focus ((repeat (first | ((with_reducible refine (cell_alloc_old _ _ _ _ ?_).trans ?_); (focus (first | omega | (simp <;> omega)))) | ((with_reducible refine (bG (by assumption) ?_).trans ?_); (focus (first | omega | (simp <;> omega)))))); exact rfl)); simp [go_sem]) | fail) [results, Try.results41, go_sem, *]; done))); (focus (go_light; rw [HR.out])); repeat (first | with_reducible exact Below.refl _ _ | with_reducible assumption | ((with_reducible refine blA ?_ ?_); (focus (first | omega | (simp <;> omega)))) | (with_reducible refine blD ?_) | (with_reducible refine blN ?_) | ((with_reducible refine blS ?_ ?_); (focus (first | omega | (simp <;> omega)))) | ((with_reducible refine blT (by assumption) ?_ ?_); (focus (first | omega | (simp <;> omega))))))
    | true =>
      have hcall : Hid (∀ w0, Calls Try.prog 50 #[.int .i64 e] w0 fun en w' => en = .returned (.bool true) ∧ w0 = w') := by
        show ∀ w0, _
        intro w0
        have := nuPrime_any e w0 (by omega)
        rwa [cp] at this
      have hover : Hid (∀ w0, Calls Try.prog 51 #[.int .i64 d, .int .i64 e] w0 fun en w' => ∃ v, en = .returned v ∧ Rw w0.heap.size 34 3 c3 w' v (poL d e) ∧ Below w0.heap.size w0 w') := fun w0 => piOver_any d e w0 m1 (by omega) e1 e2
      have hp2 := primeB_ge cp
      have HC : Hid (ipB d e 1 b = decide (rtA d e = [])) := by show _ = _; rw [ipB, if_neg (by omega), decide_eq_true rfl, Bool.true_and, cp, Bool.true_and]
      clear cp
      by_cases hlen : (poL d e).length = 1
      · obtain ⟨⟨x, y, z⟩, hL⟩ : ∃ t, poL d e = [t] := by
          match hh : poL d e, hlen with
          | [t], _ => exact ⟨t, rfl⟩
        have hHR : ∃ q : Bool, Hid (ipB d e 1 b = q) ∧ ((q = true ∧ x = e ∧ y = 1 ∧ z = b) ∨ (q = false ∧ x = 1)) := by
          by_cases h0 : rtA d e = []
          · refine ⟨true, ?_, .inl ⟨rfl, ?_⟩⟩
            · show _ = _
              rw [HC.out, decide_eq_true h0]
            · rw [poL, if_pos h0] at hL
              simp only [List.cons.injEq, Prod.mk.injEq, and_true] at hL
              obtain ⟨rfl, rfl, rfl⟩ := hL
              refine ⟨rfl, rfl, ?_⟩
              rcases (show b = 0 ∨ b = 1 by omega) with rfl | rfl <;> omega
          · refine ⟨false, ?_, .inr ⟨rfl, ?_⟩⟩
            · show _ = _
              rw [HC.out, decide_eq_false h0]
            · rw [poL, if_neg h0] at hL
              have : (x, y, z) ∈ trp 1 e (rtA d e) := by rw [hL]; simp
              simp [trp] at this
              obtain ⟨_, _, hx, _⟩ := this
              exact hx.symm
        obtain ⟨q, HR, hq⟩ := hHR
        have HLL := Lib.hid hL
        clear hL hlen HC
        go_enter Try.func41, Try.ntmps41
        go_wp2_with fail
        refine region_mix 21 [0, 1, 2, 3, 4, 5, 6] [(false, 7), (true, 8), (true, 9), (true, 10), (true, 11), (true, 12), (true, 13), (true, 14), (true, 18), (false, 15), (true, 16), (false, 17), (false, 19), (true, 20)] (by kernel_rfl) (by kernel_rfl) (by kernel_rfl) ?_
        apply Exists.intro
        refine ⟨fun w0 hw0 => ?_, ?_⟩
        · obtain ⟨hC0, hF0⟩ := bcell hw0
          have hS0 := hw0.size
          (try simp at hS0)
          (try have hS0_w0 : w.heap.size < w0.heap.size := by omega)
          (try have hS0_w1 : w.heap.size + 1 < w0.heap.size := by omega)
          (try have hS0_w2 : w.heap.size + 1 + 1 < w0.heap.size := by omega)
          (try have hS0_w3 : w.heap.size + 1 + 1 + 1 < w0.heap.size := by omega)
          (try have hS0_w4 : w.heap.size + 1 + 1 + 1 + 1 < w0.heap.size := by omega)
          (try have hL0_w0 : w.heap.size ≤ w0.heap.size := by omega)
          (try have hL0_w1 : w.heap.size + 1 ≤ w0.heap.size := by omega)
          (try have hL0_w2 : w.heap.size + 1 + 1 ≤ w0.heap.size := by omega)
          (try have hL0_w3 : w.heap.size + 1 + 1 + 1 ≤ w0.heap.size := by omega)
          (try have hL0_w : w.heap.size ≤ w0.heap.size + 1 := by omega)
          (try have hM0_1 : w.heap.size < w0.heap.size + 1 := by omega)
          (try have hM0_2 : w.heap.size < w0.heap.size + 1 + 1 := by omega)
          (try have hM0_3 : w.heap.size < w0.heap.size + 1 + 1 + 1 := by omega)
          skip
          simp only [List.filterMap_cons, List.filterMap_nil, List.getElem?_cons_zero, List.getElem?_cons_succ]
          show wpQuiet _ _ _ _ [_, _, _, _, _, _, _] _
          repeat (first | go_big_quiet_skip | (go_big_quiet_want; go_big_quiet_op; first | go_big_quiet_on | (apply Exists.intro; refine ⟨fun _ => ?_, ?_⟩; (focus ((go_at_call 50; exact past_same (hcall.out _)))); go_big_quiet_on)))
          refine wpQuiet_nil ?_
          rfl
        intro W hW hWz
        simp only [List.filterMap_cons, List.filterMap_nil, List.getElem?_cons_zero, List.getElem?_cons_succ, Option.map_some, List.drop_succ_cons, List.drop_zero]
        show effW _ _ _ _ [(false, _), (true, _), (true, _), (true, _), (true, _), (true, _), (true, _), (true, _), (true, _), (false, _), (true, _), (false, _), (false, _), (true, _)] _ _
        refine effM_of fun wa hBa => ?_
        have hza := hBa.size
        try simp at hza
        go_wp2_with fail
        refine (hover.out _).mono ?_
        rintro ex wb ⟨v, rfl, hr, hB3⟩
        rw [HLL.out] at hr
        obtain ⟨ad, kd, hvd, hkd, _, _⟩ := hr.sees c3_len
        subst hvd
        have hz3 := hB3.size
        clear hr
        go_wp2
        refine effQ_of rfl (by repeat (first | with_reducible exact Below.refl _ _ | with_reducible assumption | ((with_reducible refine blA ?_ ?_); (focus (first | omega | (simp <;> omega)))) | (with_reducible refine blD ?_) | (with_reducible refine blN ?_) | ((with_reducible refine blS ?_ ?_); (focus (first | omega | (simp <;> omega)))) | ((with_reducible refine blT (by assumption) ?_ ?_); (focus (first | omega | (simp <;> omega)))))) ?_
        refine effQuiet (by kernel_rfl) ?_
        apply Exists.intro
        refine ⟨fun w0 hw0 => ?_, ?_⟩
        · repeat (first | go_big_quiet_skip | (go_big_quiet_want; go_big_quiet_op; first | go_big_quiet_on | (apply Exists.intro; refine ⟨fun _ => ?_, ?_⟩; (focus (fail)); go_big_quiet_on)))
          refine wpQuiet_nil ?_
          rfl
        refine effQuiet (by kernel_rfl) ?_
        apply Exists.intro
        refine ⟨fun w0 hw0 => ?_, ?_⟩
        · repeat (first | go_big_quiet_skip | (go_big_quiet_want; go_big_quiet_op; first | go_big_quiet_on | (apply Exists.intro; refine ⟨fun _ => ?_, ?_⟩; (focus (fail)); go_big_quiet_on)))
          refine wpQuiet_nil ?_
          rfl
        refine effQuiet (by kernel_rfl) ?_
        apply Exists.intro
        refine ⟨fun w0 hw0 => ?_, ?_⟩
        · repeat (first | go_big_quiet_skip | (go_big_quiet_want; go_big_quiet_op; first | go_big_quiet_on | (apply Exists.intro; refine ⟨fun _ => ?_, ?_⟩; (focus (fail)); go_big_quiet_on)))
          refine wpQuiet_nil ?_
          rfl
        refine effQuiet (by kernel_rfl) ?_
        apply Exists.intro
        refine ⟨fun w0 hw0 => ?_, ?_⟩
        · repeat (first | go_big_quiet_skip | (go_big_quiet_want; go_big_quiet_op; first | go_big_quiet_on | (apply Exists.intro; refine ⟨fun _ => ?_, ?_⟩; (focus (fail)); go_big_quiet_on)))
          refine wpQuiet_nil ?_
          rfl
        refine effQuiet (by kernel_rfl) ?_
        apply Exists.intro
        refine ⟨fun w0 hw0 => ?_, ?_⟩
        · repeat (first | go_big_quiet_skip | (go_big_quiet_want; go_big_quiet_op; first | go_big_quiet_on | (apply Exists.intro; refine ⟨fun _ => ?_, ?_⟩; (focus (fail)); go_big_quiet_on)))
          refine wpQuiet_nil ?_
          rfl
        refine effQuiet (by kernel_rfl) ?_
        apply Exists.intro
        refine ⟨fun w0 hw0 => ?_, ?_⟩
        · repeat (first | go_big_quiet_skip | (go_big_quiet_want; go_big_quiet_op; first | go_big_quiet_on | (apply Exists.intro; refine ⟨fun _ => ?_, ?_⟩; (focus (fail)); go_big_quiet_on)))
          refine wpQuiet_nil ?_
          rfl
        refine effQuiet (by kernel_rfl) ?_
        apply Exists.intro
        refine ⟨fun w0 hw0 => ?_, ?_⟩
        · have hs0 : w.heap.size < w0.heap.size := (by have := hw0.size; rw [hWz] at this; simp at this; omega); have hc0 : ∀ o, w0.cell? ⟨w.heap.size, o, none⟩ = (#[.int .i64 e, .int .i64 1, .int .i64 b] : Array Value)[o]? := fun o => by rw [bG hw0 (by rw [hWz]; simp), bG hW (by simp)]; simp [go_sem]
          repeat (first | go_big_quiet_skip | (go_big_quiet_want; go_big_quiet_op; first | go_big_quiet_on | (apply Exists.intro; refine ⟨fun _ => ?_, ?_⟩; (focus (fail)); go_big_quiet_on)))
          refine wpQuiet_nil ?_
          rfl
        refine effQuiet (by kernel_rfl) ?_
        apply Exists.intro
        refine ⟨fun w0 hw0 => ?_, ?_⟩
        · have hs0 : w.heap.size < w0.heap.size := (by have := hw0.size; rw [hWz] at this; simp at this; omega); have hc0 : ∀ o, w0.cell? ⟨w.heap.size, o, none⟩ = (#[.int .i64 e, .int .i64 1, .int .i64 b] : Array Value)[o]? := fun o => by rw [bG hw0 (by rw [hWz]; simp), bG hW (by simp)]; simp [go_sem]
          repeat (first | go_big_quiet_skip | (go_big_quiet_want; go_big_quiet_op; first | go_big_quiet_on | (apply Exists.intro; refine ⟨fun _ => ?_, ?_⟩; (focus (fail)); go_big_quiet_on)))
          refine wpQuiet_nil ?_
          rfl
        refine effM_of fun wc hBc => ?_
        have hzc := hBc.size
        go_wp2_with fail
        refine (hover.out _).mono ?_
        rintro ex we ⟨v, rfl, hr, hB4⟩
        rw [HLL.out] at hr
        obtain ⟨ae, ke, hve, hke, _, hse⟩ := hr.sees c3_len
        subst hve
        have hz4 := hB4.size
        rcases hse with hse | ⟨g, rfl, hg1, hg2, hgc, _⟩
        · simp at hse
        clear hr
        go_wp2
        refine effQ_of rfl (by repeat (first | with_reducible exact Below.refl _ _ | with_reducible assumption | ((with_reducible refine blA ?_ ?_); (focus (first | omega | (simp <;> omega)))) | (with_reducible refine blD ?_) | (with_reducible refine blN ?_) | ((with_reducible refine blS ?_ ?_); (focus (first | omega | (simp <;> omega)))) | ((with_reducible refine blT (by assumption) ?_ ?_); (focus (first | omega | (simp <;> omega)))))) ?_
        refine effQuiet (by kernel_rfl) ?_
        apply Exists.intro
        refine ⟨fun w0 hw0 => ?_, ?_⟩
        · repeat (first | go_big_quiet_skip | (go_big_quiet_want; go_big_quiet_op; first | go_big_quiet_on | (apply Exists.intro; refine ⟨fun _ => ?_, ?_⟩; (focus (fail)); go_big_quiet_on)))
          refine wpQuiet_nil ?_
          rfl
        refine effM_of fun wf hBf => ?_
        have hzf := hBf.size
        have q0 : wf.cell? ⟨g, 0, none⟩ = some (.int .i64 x) := by rw [bG hBf hg2]; have := hgc 0 (x, y, z) rfl 0 (by omega); simpa [c3] using this
        have q1 : wf.cell? ⟨g, 1, none⟩ = some (.int .i64 y) := by rw [bG hBf hg2]; have := hgc 0 (x, y, z) rfl 1 (by omega); simpa [c3] using this
        have q2 : wf.cell? ⟨g, 2, none⟩ = some (.int .i64 z) := by rw [bG hBf hg2]; have := hgc 0 (x, y, z) rfl 2 (by omega); simpa [c3] using this
        go_wp2
        refine effQ_of rfl (by repeat (first | with_reducible exact Below.refl _ _ | with_reducible assumption | ((with_reducible refine blA ?_ ?_); (focus (first | omega | (simp <;> omega)))) | (with_reducible refine blD ?_) | (with_reducible refine blN ?_) | ((with_reducible refine blS ?_ ?_); (focus (first | omega | (simp <;> omega)))) | ((with_reducible refine blT (by assumption) ?_ ?_); (focus (first | omega | (simp <;> omega)))))) ?_
        refine effM_of fun wh hBh => ?_
        have hzh := hBh.size
        have hzW := hW.size
        try simp at hzW
        rcases hq with ⟨rfl, rfl, rfl, rfl⟩ | ⟨rfl, rfl⟩
        · go_wp2
          refine effQ_of rfl (by repeat (first | with_reducible exact Below.refl _ _ | with_reducible assumption | ((with_reducible refine blA ?_ ?_); (focus (first | omega | (simp <;> omega)))) | (with_reducible refine blD ?_) | (with_reducible refine blN ?_) | ((with_reducible refine blS ?_ ?_); (focus (first | omega | (simp <;> omega)))) | ((with_reducible refine blT (by assumption) ?_ ?_); (focus (first | omega | (simp <;> omega)))))) ?_
          refine effQuiet (by kernel_rfl) ?_
          apply Exists.intro
          refine ⟨fun w0 hw0 => ?_, ?_⟩
          · repeat (first | go_big_quiet_skip | (go_big_quiet_want; go_big_quiet_op; first | go_big_quiet_on | (apply Exists.intro; refine ⟨fun _ => ?_, ?_⟩; (focus (fail)); go_big_quiet_on)))
            refine wpQuiet_nil ?_
            rfl
          intro wl hwl
          have hBl := past_below hwl
          clear hwl
          have hzl := hBl.size
          have hBW : Below w.heap.size w wl := by repeat (first | with_reducible exact Below.refl _ _ | with_reducible assumption | ((with_reducible refine blA ?_ ?_); (focus (first | omega | (simp <;> omega)))) | (with_reducible refine blD ?_) | (with_reducible refine blN ?_) | ((with_reducible refine blS ?_ ?_); (focus (first | omega | (simp <;> omega)))) | ((with_reducible refine blT (by assumption) ?_ ?_); (focus (first | omega | (simp <;> omega)))))
          clear hBl hBh hBf hB4 hBc hB3 hBa hW
          go_wp2
          go_ret
          exact ⟨ret_bool HR.out.symm, hBW⟩
        · have hne : ((1 : Int) == e) = false := by simp; omega
          have hne' : ¬ (1 : Int) = e := by omega
          go_wp2
          refine effQ_of rfl (by repeat (first | with_reducible exact Below.refl _ _ | with_reducible assumption | ((with_reducible refine blA ?_ ?_); (focus (first | omega | (simp <;> omega)))) | (with_reducible refine blD ?_) | (with_reducible refine blN ?_) | ((with_reducible refine blS ?_ ?_); (focus (first | omega | (simp <;> omega)))) | ((with_reducible refine blT (by assumption) ?_ ?_); (focus (first | omega | (simp <;> omega)))))) ?_
          refine effQuiet (by kernel_rfl) ?_
          apply Exists.intro
          refine ⟨fun w0 hw0 => ?_, ?_⟩
          · repeat (first | go_big_quiet_skip | (go_big_quiet_want; go_big_quiet_op; first | go_big_quiet_on | (apply Exists.intro; refine ⟨fun _ => ?_, ?_⟩; (focus (fail)); go_big_quiet_on)))
            refine wpQuiet_nil ?_
            rfl
          intro wl hwl
          have hBl := past_below hwl
          clear hwl
          have hzl := hBl.size
          have hBW : Below w.heap.size w wl := by repeat (first | with_reducible exact Below.refl _ _ | with_reducible assumption | ((with_reducible refine blA ?_ ?_); (focus (first | omega | (simp <;> omega)))) | (with_reducible refine blD ?_) | (with_reducible refine blN ?_) | ((with_reducible refine blS ?_ ?_); (focus (first | omega | (simp <;> omega)))) | ((with_reducible refine blT (by assumption) ?_ ?_); (focus (first | omega | (simp <;> omega)))))
          clear hBl hBh hBf hB4 hBc hB3 hBa hW
          go_wp2
          go_ret
          exact ⟨ret_bool HR.out.symm, hBW⟩
      · have HR : Hid (ipB d e 1 b = false) := by
          show _ = _
          rw [HC.out]
          refine decide_eq_false fun h0 => hlen ?_
          rw [poL, if_pos h0]
          rfl
        obtain ⟨L, hL⟩ : ∃ L, (poL d e).length = L := ⟨_, rfl⟩
        have HL := Lib.hid hL
        rw [hL] at hlen
        have hlb := poL_len (d := d) (p := e) (by omega)
        rw [hL] at hlb
        have hlz : ((L : Int) == 1) = false := by simp; omega
        clear hL
        go_enter Try.func41, Try.ntmps41
        go_wp2_with fail
        refine region_mix 21 [0, 1, 2, 3, 4, 5, 6] [(false, 7), (true, 8), (true, 9), (true, 10), (true, 11), (true, 12), (true, 13), (true, 14), (true, 15), (true, 16), (true, 17), (true, 18), (true, 19), (true, 20)] (by kernel_rfl) (by kernel_rfl) (by kernel_rfl) ?_
        apply Exists.intro
        refine ⟨fun w0 hw0 => ?_, ?_⟩
        · obtain ⟨hC0, hF0⟩ := bcell hw0
          have hS0 := hw0.size
          (try simp at hS0)
          (try have hS0_w0 : w.heap.size < w0.heap.size := by omega)
          (try have hS0_w1 : w.heap.size + 1 < w0.heap.size := by omega)
          (try have hS0_w2 : w.heap.size + 1 + 1 < w0.heap.size := by omega)
          (try have hS0_w3 : w.heap.size + 1 + 1 + 1 < w0.heap.size := by omega)
          (try have hS0_w4 : w.heap.size + 1 + 1 + 1 + 1 < w0.heap.size := by omega)
          (try have hL0_w0 : w.heap.size ≤ w0.heap.size := by omega)
          (try have hL0_w1 : w.heap.size + 1 ≤ w0.heap.size := by omega)
          (try have hL0_w2 : w.heap.size + 1 + 1 ≤ w0.heap.size := by omega)
          (try have hL0_w3 : w.heap.size + 1 + 1 + 1 ≤ w0.heap.size := by omega)
          (try have hL0_w : w.heap.size ≤ w0.heap.size + 1 := by omega)
          (try have hM0_1 : w.heap.size < w0.heap.size + 1 := by omega)
          (try have hM0_2 : w.heap.size < w0.heap.size + 1 + 1 := by omega)
          (try have hM0_3 : w.heap.size < w0.heap.size + 1 + 1 + 1 := by omega)
          skip
          simp only [List.filterMap_cons, List.filterMap_nil, List.getElem?_cons_zero, List.getElem?_cons_succ]
          show wpQuiet _ _ _ _ [_, _, _, _, _, _, _] _
          repeat (first | go_big_quiet_skip | (go_big_quiet_want; go_big_quiet_op; first | go_big_quiet_on | (apply Exists.intro; refine ⟨fun _ => ?_, ?_⟩; (focus ((go_at_call 50; exact past_same (hcall.out _)))); go_big_quiet_on)))
          refine wpQuiet_nil ?_
          rfl
        intro W hW hWz
        simp only [List.filterMap_cons, List.filterMap_nil, List.getElem?_cons_zero, List.getElem?_cons_succ, Option.map_some, List.drop_succ_cons, List.drop_zero]
        show effW _ _ _ _ [(false, _), (true, _), (true, _), (true, _), (true, _), (true, _), (true, _), (true, _), (true, _), (true, _), (true, _), (true, _), (true, _), (true, _)] _ _
        refine effM_of fun wa hBa => ?_
        have hza := hBa.size
        try simp at hza
        go_wp2_with fail
        refine (hover.out _).mono ?_
        rintro ex wb ⟨v, rfl, hr, hB3⟩
        obtain ⟨ad, kd, hvd, hkd, _, _⟩ := hr.sees c3_len
        rw [HL.out] at hvd hkd
        subst hvd
        have hz3 := hB3.size
        clear hr
        go_wp2
        refine effQ_of rfl (by repeat (first | with_reducible exact Below.refl _ _ | with_reducible assumption | ((with_reducible refine blA ?_ ?_); (focus (first | omega | (simp <;> omega)))) | (with_reducible refine blD ?_) | (with_reducible refine blN ?_) | ((with_reducible refine blS ?_ ?_); (focus (first | omega | (simp <;> omega)))) | ((with_reducible refine blT (by assumption) ?_ ?_); (focus (first | omega | (simp <;> omega)))))) ?_
        refine effQuiet (by kernel_rfl) ?_
        apply Exists.intro
        refine ⟨fun w0 hw0 => ?_, ?_⟩
        · repeat (first | go_big_quiet_skip | (go_big_quiet_want; go_big_quiet_op; first | go_big_quiet_on | (apply Exists.intro; refine ⟨fun _ => ?_, ?_⟩; (focus (fail)); go_big_quiet_on)))
          refine wpQuiet_nil ?_
          rfl
        refine effQuiet (by kernel_rfl) ?_
        apply Exists.intro
        refine ⟨fun w0 hw0 => ?_, ?_⟩
        · repeat (first | go_big_quiet_skip | (go_big_quiet_want; go_big_quiet_op; first | go_big_quiet_on | (apply Exists.intro; refine ⟨fun _ => ?_, ?_⟩; (focus (fail)); go_big_quiet_on)))
          refine wpQuiet_nil ?_
          rfl
        refine effQuiet (by kernel_rfl) ?_
        apply Exists.intro
        refine ⟨fun w0 hw0 => ?_, ?_⟩
        · repeat (first | go_big_quiet_skip | (go_big_quiet_want; go_big_quiet_op; first | go_big_quiet_on | (apply Exists.intro; refine ⟨fun _ => ?_, ?_⟩; (focus (fail)); go_big_quiet_on)))
          refine wpQuiet_nil ?_
          rfl
        refine effQuiet (by kernel_rfl) ?_
        apply Exists.intro
        refine ⟨fun w0 hw0 => ?_, ?_⟩
        · repeat (first | go_big_quiet_skip | (go_big_quiet_want; go_big_quiet_op; first | go_big_quiet_on | (apply Exists.intro; refine ⟨fun _ => ?_, ?_⟩; (focus (fail)); go_big_quiet_on)))
          refine wpQuiet_nil ?_
          rfl
        refine effQuiet (by kernel_rfl) ?_
        apply Exists.intro
        refine ⟨fun w0 hw0 => ?_, ?_⟩
        · repeat (first | go_big_quiet_skip | (go_big_quiet_want; go_big_quiet_op; first | go_big_quiet_on | (apply Exists.intro; refine ⟨fun _ => ?_, ?_⟩; (focus (fail)); go_big_quiet_on)))
          refine wpQuiet_nil ?_
          rfl
        refine effQuiet (by kernel_rfl) ?_
        apply Exists.intro
        refine ⟨fun w0 hw0 => ?_, ?_⟩
        · repeat (first | go_big_quiet_skip | (go_big_quiet_want; go_big_quiet_op; first | go_big_quiet_on | (apply Exists.intro; refine ⟨fun _ => ?_, ?_⟩; (focus (fail)); go_big_quiet_on)))
          refine wpQuiet_nil ?_
          rfl
        refine effQuiet (by kernel_rfl) ?_
        apply Exists.intro
        refine ⟨fun w0 hw0 => ?_, ?_⟩
        · repeat (first | go_big_quiet_skip | (go_big_quiet_want; go_big_quiet_op; first | go_big_quiet_on | (apply Exists.intro; refine ⟨fun _ => ?_, ?_⟩; (focus (fail)); go_big_quiet_on)))
          refine wpQuiet_nil ?_
          rfl
        refine effQuiet (by kernel_rfl) ?_
        apply Exists.intro
        refine ⟨fun w0 hw0 => ?_, ?_⟩
        · repeat (first | go_big_quiet_skip | (go_big_quiet_want; go_big_quiet_op; first | go_big_quiet_on | (apply Exists.intro; refine ⟨fun _ => ?_, ?_⟩; (focus (fail)); go_big_quiet_on)))
          refine wpQuiet_nil ?_
          rfl
        refine effQuiet (by kernel_rfl) ?_
        apply Exists.intro
        refine ⟨fun w0 hw0 => ?_, ?_⟩
        · repeat (first | go_big_quiet_skip | (go_big_quiet_want; go_big_quiet_op; first | go_big_quiet_on | (apply Exists.intro; refine ⟨fun _ => ?_, ?_⟩; (focus (fail)); go_big_quiet_on)))
          refine wpQuiet_nil ?_
          rfl
        refine effQuiet (by kernel_rfl) ?_
        apply Exists.intro
        refine ⟨fun w0 hw0 => ?_, ?_⟩
        · repeat (first | go_big_quiet_skip | (go_big_quiet_want; go_big_quiet_op; first | go_big_quiet_on | (apply Exists.intro; refine ⟨fun _ => ?_, ?_⟩; (focus (fail)); go_big_quiet_on)))
          refine wpQuiet_nil ?_
          rfl
        refine effQuiet (by kernel_rfl) ?_
        apply Exists.intro
        refine ⟨fun w0 hw0 => ?_, ?_⟩
        · repeat (first | go_big_quiet_skip | (go_big_quiet_want; go_big_quiet_op; first | go_big_quiet_on | (apply Exists.intro; refine ⟨fun _ => ?_, ?_⟩; (focus (fail)); go_big_quiet_on)))
          refine wpQuiet_nil ?_
          rfl
        refine effQuiet (by kernel_rfl) ?_
        apply Exists.intro
        refine ⟨fun w0 hw0 => ?_, ?_⟩
        · repeat (first | go_big_quiet_skip | (go_big_quiet_want; go_big_quiet_op; first | go_big_quiet_on | (apply Exists.intro; refine ⟨fun _ => ?_, ?_⟩; (focus (fail)); go_big_quiet_on)))
          refine wpQuiet_nil ?_
          rfl
        refine effQuiet (by kernel_rfl) ?_
        apply Exists.intro
        refine ⟨fun w0 hw0 => ?_, ?_⟩
        · repeat (first | go_big_quiet_skip | (go_big_quiet_want; go_big_quiet_op; first | go_big_quiet_on | (apply Exists.intro; refine ⟨fun _ => ?_, ?_⟩; (focus (fail)); go_big_quiet_on)))
          refine wpQuiet_nil ?_
          rfl
        intro wl hwl
        have hBl := past_below hwl
        clear hwl
        have hzl := hBl.size
        have hzW := hW.size
        try simp at hzW
        have hBW : Below w.heap.size w wl := by repeat (first | with_reducible exact Below.refl _ _ | with_reducible assumption | ((with_reducible refine blA ?_ ?_); (focus (first | omega | (simp <;> omega)))) | (with_reducible refine blD ?_) | (with_reducible refine blN ?_) | ((with_reducible refine blS ?_ ?_); (focus (first | omega | (simp <;> omega)))) | ((with_reducible refine blT (by assumption) ?_ ?_); (focus (first | omega | (simp <;> omega)))))
        clear hBl hB3 hBa hW
        go_wp2
        go_ret
        exact ⟨ret_bool HR.out.symm, hBW⟩
  · by_cases ce : e = 1
    · subst ce
      have HR : Hid (ipB d 1 a b = primeB a) := by show _ = _; rw [ipB, if_pos rfl]
      go_enter Try.func41, Try.ntmps41
      go_wp2_with (first | (go_at_call 50; refine (nuPrime_any _ _ (by omega)).mono ?_; rintro e w' ⟨rfl, rfl⟩))
      (refine bodyPost_ret (v := .bool (primeB a)) ?_ rfl ⟨?_, ?_⟩; (focus (go_light; first | (simp [results, Try.results41, go_sem, *]; done) | (simp (disch := first | omega | (simp <;> omega) | (refine isSome_of ?_ ?_; (focus ((repeat (first | ((with_reducible refine (cell_alloc_old _ _ _ _ ?_).trans ?_); (focus (first | omega | (simp <;> omega)))) | ((with_reducible refine (bG (by assumption) ?_).trans ?_); (focus (first | omega | (simp <;> omega)))))); exact rfl)); simp [go_sem]) | fail) [results, Try.results41, go_sem, *]; done))); (focus (go_light; rw [HR.out])); repeat (first | with_reducible exact Below.refl _ _ | with_reducible assumption | ((with_reducible refine blA ?_ ?_); (focus (first | omega | (simp <;> omega)))) | (with_reducible refine blD ?_) | (with_reducible refine blN ?_) | ((with_reducible refine blS ?_ ?_); (focus (first | omega | (simp <;> omega)))) | ((with_reducible refine blT (by assumption) ?_ ?_); (focus (first | omega | (simp <;> omega))))))
    · have HR : Hid (ipB d e a b = false) := by show _ = _; rw [ipB, if_neg ce, decide_eq_false ca, Bool.false_and]
      go_enter Try.func41, Try.ntmps41
      go_wp2
      (refine bodyPost_ret (v := .bool false) ?_ rfl ⟨?_, ?_⟩; (focus (go_light; first | (simp [results, Try.results41, go_sem, *]; done) | (simp (disch := first | omega | (simp <;> omega) | (refine isSome_of ?_ ?_; (focus ((repeat (first | ((with_reducible refine (cell_alloc_old _ _ _ _ ?_).trans ?_); (focus (first | omega | (simp <;> omega)))) | ((with_reducible refine (bG (by assumption) ?_).trans ?_); (focus (first | omega | (simp <;> omega)))))); exact rfl)); simp [go_sem]) | fail) [results, Try.results41, go_sem, *]; done))); (focus (go_light; rw [HR.out])); repeat (first | with_reducible exact Below.refl _ _ | with_reducible assumption | ((with_reducible refine blA ?_ ?_); (focus (first | omega | (simp <;> omega)))) | (with_reducible refine blD ?_) | (with_reducible refine blN ?_) | ((with_reducible refine blS ?_ ?_); (focus (first | omega | (simp <;> omega)))) | ((with_reducible refine blT (by assumption) ?_ ?_); (focus (first | omega | (simp <;> omega))))))
theorem implIsPrimeIdeal_any (d e a b : Int) (w : World) (hd : I64 d) : Calls Try.prog 21 #[.int .i64 d, .agg #[.int .i64 e, .int .i64 a, .int .i64 b]] w fun en w' => en = .returned (.tuple #[.bool (ipR d e a b), .bool (fnB d && idB d e a b)]) ∧ Below w.heap.size w w' := by
  cases c : fnB d && idB d e a b with
  | true =>
    have c1 : fnB d = true := by simp only [Bool.and_eq_true] at c; exact c.1
    have c2 : idB d e a b = true := by simp only [Bool.and_eq_true] at c; exact c.2
    have hs : Hid (ipR d e a b = ipB d e a b) := by show _ = _; rw [ipR, c, Bool.true_and]
    have hg : Hid (∀ w0, Calls Try.prog 42 #[.int .i64 d, .agg #[.int .i64 e, .int .i64 a, .int .i64 b]] w0 fun en w' => en = .returned (.bool true) ∧ Below w0.heap.size w0 w') := by
      show ∀ w0, _
      intro w0
      have := isWholeI_any d e a b w0 hd
      rwa [c] at this
    go_enter Try.func21, Try.ntmps21
    go_wp2_with (first | (go_at_call 42; refine (hg.out _).mono ?_; rintro e w' ⟨rfl, hB⟩; obtain ⟨hC, hF⟩ := bcell hB; have hS := hB.size; (try simp at hS); (try have hSl := Nat.lt_of_succ_le hS); (try have hS0 : w.heap.size < w'.heap.size := by omega); (try have hS1 : w.heap.size + 1 < w'.heap.size := by omega); (try have hS2 : w.heap.size + 1 + 1 < w'.heap.size := by omega); (try have hS3 : w.heap.size + 1 + 1 + 1 < w'.heap.size := by omega)) | (go_at_call 43; refine (isPrimeIdeal_any _ _ _ _ _ c1 c2).mono ?_; rintro e w' ⟨rfl, hB⟩; obtain ⟨hC, hF⟩ := bcell hB; have hS := hB.size; (try simp at hS); (try have hSl := Nat.lt_of_succ_le hS); (try have hS0 : w.heap.size < w'.heap.size := by omega); (try have hS1 : w.heap.size + 1 < w'.heap.size := by omega); (try have hS2 : w.heap.size + 1 + 1 < w'.heap.size := by omega); (try have hS3 : w.heap.size + 1 + 1 + 1 < w'.heap.size := by omega)))
    go_ret2
    refine ⟨ret_bb (by go_light; rw [hs.out]) rfl, ?_⟩
    repeat (first | with_reducible exact Below.refl _ _ | with_reducible assumption | ((with_reducible refine blA ?_ ?_); (focus (first | omega | (simp <;> omega)))) | (with_reducible refine blD ?_) | (with_reducible refine blN ?_) | ((with_reducible refine blS ?_ ?_); (focus (first | omega | (simp <;> omega)))) | ((with_reducible refine blT (by assumption) ?_ ?_); (focus (first | omega | (simp <;> omega)))))
  | false =>
    have hs : Hid (ipR d e a b = false) := by show _ = _; rw [ipR, c, Bool.false_and]
    have hg : Hid (∀ w0, Calls Try.prog 42 #[.int .i64 d, .agg #[.int .i64 e, .int .i64 a, .int .i64 b]] w0 fun en w' => en = .returned (.bool false) ∧ Below w0.heap.size w0 w') := by
      show ∀ w0, _
      intro w0
      have := isWholeI_any d e a b w0 hd
      rwa [c] at this
    clear c
    go_enter Try.func21, Try.ntmps21
    go_wp2_with (first | (go_at_call 42; refine (hg.out _).mono ?_; rintro e w' ⟨rfl, hB⟩; obtain ⟨hC, hF⟩ := bcell hB; have hS := hB.size; (try simp at hS); (try have hSl := Nat.lt_of_succ_le hS); (try have hS0 : w.heap.size < w'.heap.size := by omega); (try have hS1 : w.heap.size + 1 < w'.heap.size := by omega); (try have hS2 : w.heap.size + 1 + 1 < w'.heap.size := by omega); (try have hS3 : w.heap.size + 1 + 1 + 1 < w'.heap.size := by omega)))
    go_ret2
    refine ⟨ret_bb (by go_light; rw [hs.out]) rfl, ?_⟩
    repeat (first | with_reducible exact Below.refl _ _ | with_reducible assumption | ((with_reducible refine blA ?_ ?_); (focus (first | omega | (simp <;> omega)))) | (with_reducible refine blD ?_) | (with_reducible refine blN ?_) | ((with_reducible refine blS ?_ ?_); (focus (first | omega | (simp <;> omega)))) | ((with_reducible refine blT (by assumption) ?_ ?_); (focus (first | omega | (simp <;> omega)))))
theorem specIsPrimeIdeal_any (d e a b : Int) (w : World) (hd : I64 d) : Calls Try.prog 19 #[.int .i64 d, .agg #[.int .i64 e, .int .i64 a, .int .i64 b]] w fun en w' => en = .returned (.tuple #[.bool (ipR d e a b), .bool (fnB d && idB d e a b)]) ∧ Below w.heap.size w w' := by
  cases c : fnB d && idB d e a b with
  | true =>
    have c1 : fnB d = true := by simp only [Bool.and_eq_true] at c; exact c.1
    have c2 : idB d e a b = true := by simp only [Bool.and_eq_true] at c; exact c.2
    have hs : Hid (ipR d e a b = ipB d e a b) := by show _ = _; rw [ipR, c, Bool.true_and]
    have hg : Hid (∀ w0, Calls Try.prog 40 #[.int .i64 d, .agg #[.int .i64 e, .int .i64 a, .int .i64 b]] w0 fun en w' => en = .returned (.bool true) ∧ Below w0.heap.size w0 w') := by
      show ∀ w0, _
      intro w0
      have := piGoodI_any d e a b w0 hd
      rwa [c] at this
    go_enter Try.func19, Try.ntmps19
    go_wp2_with (first | (go_at_call 40; refine (hg.out _).mono ?_; rintro e w' ⟨rfl, hB⟩; obtain ⟨hC, hF⟩ := bcell hB; have hS := hB.size; (try simp at hS); (try have hSl := Nat.lt_of_succ_le hS); (try have hS0 : w.heap.size < w'.heap.size := by omega); (try have hS1 : w.heap.size + 1 < w'.heap.size := by omega); (try have hS2 : w.heap.size + 1 + 1 < w'.heap.size := by omega); (try have hS3 : w.heap.size + 1 + 1 + 1 < w'.heap.size := by omega)) | (go_at_call 41; refine (piPrime_any _ _ _ _ _ c1 c2).mono ?_; rintro e w' ⟨rfl, hB⟩; obtain ⟨hC, hF⟩ := bcell hB; have hS := hB.size; (try simp at hS); (try have hSl := Nat.lt_of_succ_le hS); (try have hS0 : w.heap.size < w'.heap.size := by omega); (try have hS1 : w.heap.size + 1 < w'.heap.size := by omega); (try have hS2 : w.heap.size + 1 + 1 < w'.heap.size := by omega); (try have hS3 : w.heap.size + 1 + 1 + 1 < w'.heap.size := by omega)))
    go_ret2
    refine ⟨ret_bb (by go_light; rw [hs.out]) rfl, ?_⟩
    repeat (first | with_reducible exact Below.refl _ _ | with_reducible assumption | ((with_reducible refine blA ?_ ?_); (focus (first | omega | (simp <;> omega)))) | (with_reducible refine blD ?_) | (with_reducible refine blN ?_) | ((with_reducible refine blS ?_ ?_); (focus (first | omega | (simp <;> omega)))) | ((with_reducible refine blT (by assumption) ?_ ?_); (focus (first | omega | (simp <;> omega)))))
  | false =>
    have hs : Hid (ipR d e a b = false) := by show _ = _; rw [ipR, c, Bool.false_and]
    have hg : Hid (∀ w0, Calls Try.prog 40 #[.int .i64 d, .agg #[.int .i64 e, .int .i64 a, .int .i64 b]] w0 fun en w' => en = .returned (.bool false) ∧ Below w0.heap.size w0 w') := by
      show ∀ w0, _
      intro w0
      have := piGoodI_any d e a b w0 hd
      rwa [c] at this
    clear c
    go_enter Try.func19, Try.ntmps19
    go_wp2_with (first | (go_at_call 40; refine (hg.out _).mono ?_; rintro e w' ⟨rfl, hB⟩; obtain ⟨hC, hF⟩ := bcell hB; have hS := hB.size; (try simp at hS); (try have hSl := Nat.lt_of_succ_le hS); (try have hS0 : w.heap.size < w'.heap.size := by omega); (try have hS1 : w.heap.size + 1 < w'.heap.size := by omega); (try have hS2 : w.heap.size + 1 + 1 < w'.heap.size := by omega); (try have hS3 : w.heap.size + 1 + 1 + 1 < w'.heap.size := by omega)))
    go_ret2
    refine ⟨ret_bb (by go_light; rw [hs.out]) rfl, ?_⟩
    repeat (first | with_reducible exact Below.refl _ _ | with_reducible assumption | ((with_reducible refine blA ?_ ?_); (focus (first | omega | (simp <;> omega)))) | (with_reducible refine blD ?_) | (with_reducible refine blN ?_) | ((with_reducible refine blS ?_ ?_); (focus (first | omega | (simp <;> omega)))) | ((with_reducible refine blT (by assumption) ?_ ?_); (focus (first | omega | (simp <;> omega)))))
set_option maxHeartbeats 1000000 in
theorem law_isPrimeIdeal (d e a b : Int) (w : World) (hd : I64 d) (_ : I64 e) (_ : I64 a) (_ : I64 b) :
    Calls Try.prog 5 #[.int .i64 d, .agg #[.int .i64 e, .int .i64 a, .int .i64 b]] w fun en w' => en = .returned (.bool true) ∧ Below w.heap.size w w' := by
  go_enter Try.func5, Try.ntmps5
  go_wp2_with (first | (go_at_call 20; refine (toIdeal_any _ _ _ _).mono ?_; rintro e w' ⟨rfl, hB⟩; obtain ⟨hC, hF⟩ := bcell hB; have hS := hB.size; (try simp at hS); (try have hSl := Nat.lt_of_succ_le hS); (try have hS0 : w.heap.size < w'.heap.size := by omega); (try have hS1 : w.heap.size + 1 < w'.heap.size := by omega); (try have hS2 : w.heap.size + 1 + 1 < w'.heap.size := by omega); (try have hS3 : w.heap.size + 1 + 1 + 1 < w'.heap.size := by omega)) | (go_at_call 19; refine (specIsPrimeIdeal_any _ _ _ _ _ hd).mono ?_; rintro e w' ⟨rfl, hB⟩; obtain ⟨hC, hF⟩ := bcell hB; have hS := hB.size; (try simp at hS); (try have hSl := Nat.lt_of_succ_le hS); (try have hS0 : w.heap.size < w'.heap.size := by omega); (try have hS1 : w.heap.size + 1 < w'.heap.size := by omega); (try have hS2 : w.heap.size + 1 + 1 < w'.heap.size := by omega); (try have hS3 : w.heap.size + 1 + 1 + 1 < w'.heap.size := by omega)) | (go_at_call 21; refine (implIsPrimeIdeal_any _ _ _ _ _ hd).mono ?_; rintro e w' ⟨rfl, hB⟩; obtain ⟨hC, hF⟩ := bcell hB; have hS := hB.size; (try simp at hS); (try have hSl := Nat.lt_of_succ_le hS); (try have hS0 : w.heap.size < w'.heap.size := by omega); (try have hS1 : w.heap.size + 1 < w'.heap.size := by omega); (try have hS2 : w.heap.size + 1 + 1 < w'.heap.size := by omega); (try have hS3 : w.heap.size + 1 + 1 + 1 < w'.heap.size := by omega)))
  go_ret
  refine ⟨rfl, ?_⟩
  repeat (first | with_reducible exact Below.refl _ _ | with_reducible assumption | ((with_reducible refine blA ?_ ?_); (focus (first | omega | (simp <;> omega)))) | (with_reducible refine blD ?_) | (with_reducible refine blN ?_) | ((with_reducible refine blS ?_ ?_); (focus (first | omega | (simp <;> omega)))) | ((with_reducible refine blT (by assumption) ?_ ?_); (focus (first | omega | (simp <;> omega)))))
end Go.Proofs.Ytladcjoiaoaedaa
