/-
  Fundamental discriminants as the chapter on prime ideals asks for them; roots of discriminants. Printed by mkpi.py.
-/
import Derived.Test.YtladcjoiaoaedaaFnd
import Derived.Test.YtladcjoiaoaedaaRoot
import Derived.Test.YtladcjoiaoaedaaForm
namespace Go.Proofs.Ytladcjoiaoaedaa
open Go.RowKit
attribute [local simp, local go_sem] past_cell past_frozen past_tape
def diB (d : Int) : Bool := numB d && decide (d % 4 < 2) && !sqB d
theorem diB_ne {d : Int} (h : diB d = true) : d ≠ 0 := by
  rintro rfl
  have : sqB 0 = true := by
    unfold sqB
    have h1 := isqrt_spec (n := 0) (by omega)
    have h2 : isqrt 0 = 0 := isqrt_unique (by omega) (by omega) (by omega)
    rw [h2]; rfl
  simp [diB, this] at h
theorem diB_neg {d : Int} (h : negB d = true) : diB d = true := by
  obtain ⟨h1, h2, h3⟩ := negB_true h
  have a1 : numB d = true := by unfold numB; exact decide_eq_true ⟨by omega, by omega⟩
  have a2 : sqB d = false := by unfold sqB; rw [decide_eq_false (by omega), Bool.false_and]
  simp [diB, a1, a2]
  omega
def rtL (d n : Int) : Nat → List Int
  | 0 => []
  | k + 1 => if ((k : Int) * k - d) % (4 * n) = 0 then rtL d n k ++ [(k : Int)] else rtL d n k
def rtA (d n : Int) : List Int := rtL d n (2 * n).toNat
theorem rtL_len (d n : Int) (k : Nat) : (rtL d n k).length ≤ k := by
  induction k with
  | zero => simp [rtL]
  | succ k ih => unfold rtL; split <;> (try simp) <;> omega
theorem mem_rtL {d n x : Int} {k : Nat} (h : x ∈ rtL d n k) : 0 ≤ x ∧ x < k ∧ (x * x - d) % (4 * n) = 0 := by
  induction k with
  | zero => simp [rtL] at h
  | succ k ih =>
    unfold rtL at h
    split at h
    · rename_i hc
      rcases List.mem_append.1 h with h | h
      · have := ih h; exact ⟨this.1, by omega, this.2.2⟩
      · simp at h; subst h; exact ⟨by omega, by omega, hc⟩
    · have := ih h; exact ⟨this.1, by omega, this.2.2⟩
theorem diIs_any (d : Int) (w : World) (hd : I64 d) : Calls Try.prog 97 #[.int .i64 d] w fun en w' => en = .returned (.bool (diB d)) ∧ w = w' := by
  obtain ⟨d1, d2⟩ := hd
  cases c1 : numB d with
  | false =>
    have HR : Hid (diB d = false) := by show _ = _; rw [diB, c1]; rfl
    go_enter Try.func97, Try.ntmps97
    go_wp2_with (go_at_call 112; refine (nuGood_any _ _).mono ?_; rintro e w' ⟨rfl, rfl⟩)
    go_ret
    exact ⟨ret_bool HR.out.symm, rfl⟩
  | true =>
    obtain ⟨n1, n2⟩ := numB_bd c1
    have hm0 := Int.emod_nonneg d (show (4 : Int) ≠ 0 by omega)
    by_cases c2 : d % 4 < 2
    · have HR : Hid (diB d = !sqB d) := by show _ = _; rw [diB, c1, decide_eq_true c2]; rfl
      go_enter Try.func97, Try.ntmps97
      go_wp2_with (first | (go_at_call 112; refine (nuGood_any _ _).mono ?_; rintro e w' ⟨rfl, rfl⟩) | (go_at_call 44; refine (nuMod_any _ _ _ ⟨by omega, by omega⟩ (by omega) (by omega)).mono ?_; rintro e w' ⟨rfl, rfl⟩) | (go_at_call 113; refine (nuSquare_any _ _ (by omega)).mono ?_; rintro e w' ⟨rfl, rfl⟩))
      go_ret
      exact ⟨ret_bool HR.out.symm, rfl⟩
    · have HR : Hid (diB d = false) := by show _ = _; rw [diB, c1, decide_eq_false c2]; rfl
      go_enter Try.func97, Try.ntmps97
      go_wp2_with (first | (go_at_call 112; refine (nuGood_any _ _).mono ?_; rintro e w' ⟨rfl, rfl⟩) | (go_at_call 44; refine (nuMod_any _ _ _ ⟨by omega, by omega⟩ (by omega) (by omega)).mono ?_; rintro e w' ⟨rfl, rfl⟩) | (go_at_call 113; refine (nuSquare_any _ _ (by omega)).mono ?_; rintro e w' ⟨rfl, rfl⟩))
      go_ret
      exact ⟨ret_bool HR.out.symm, rfl⟩
theorem specIsFund_any (d : Int) (w : World) (hd : I64 d) : Calls Try.prog 70 #[.int .i64 d] w fun en w' => en = .returned (.tuple #[.bool (diB d && decide (fdK d = 1)), .bool (diB d)]) ∧ w = w' := by
  cases c : diB d with
  | false =>
    go_enter Try.func70, Try.ntmps70
    go_wp2_with (go_at_call 97; refine (diIs_any _ _ hd).mono ?_; rintro e w' ⟨rfl, rfl⟩)
    go_ret2
    exact ⟨rfl, rfl⟩
  | true =>
    have h0 := diB_ne c
    have hb : Bd 1000000 d := by
      have : numB d = true := by simp [diB] at c; exact c.1.1
      exact numB_bd this
    have hcall : Hid (∀ w0, Calls Try.prog 98 #[.int .i64 d] w0 fun en w' => en = .returned (.tuple #[.int .i64 (fdE d), .int .i64 (fdK d)]) ∧ w0 = w') := fun w0 => (diSplit_any d w0 h0 hb).mono fun _ _ ⟨h1, h2, _⟩ => ⟨h1, h2⟩
    by_cases h1 : fdK d = 1
    · have hz : (fdK d == 1) = true := by simp [h1]
      have HR : Hid (decide (fdK d = 1) = true) := by show _ = _; rw [decide_eq_true h1]
      rw [HR.out]
      generalize fdK d = q at *
      clear h1
      go_enter Try.func70, Try.ntmps70
      go_wp2_with (first | (go_at_call 97; refine (diIs_any _ _ hd).mono ?_; rintro e w' ⟨rfl, rfl⟩) | (go_at_call 98; refine (hcall.out _).mono ?_; rintro e w' ⟨rfl, rfl⟩))
      go_ret2
      exact ⟨rfl, rfl⟩
    · have hz : (fdK d == 1) = false := by simp [h1]
      have HR : Hid (decide (fdK d = 1) = false) := by show _ = _; rw [decide_eq_false h1]
      rw [HR.out]
      generalize fdK d = q at *
      clear h1
      go_enter Try.func70, Try.ntmps70
      go_wp2_with (first | (go_at_call 97; refine (diIs_any _ _ hd).mono ?_; rintro e w' ⟨rfl, rfl⟩) | (go_at_call 98; refine (hcall.out _).mono ?_; rintro e w' ⟨rfl, rfl⟩))
      go_ret2
      exact ⟨rfl, rfl⟩
theorem piDisc_any (d : Int) (w : World) (hd : I64 d) : Calls Try.prog 35 #[.int .i64 d] w fun en w' => en = .returned (.bool (fnB d)) ∧ w = w' := by
  have hcall : Hid (∀ w0, Calls Try.prog 70 #[.int .i64 d] w0 fun en w' => en = .returned (.tuple #[.bool (diB d && decide (fdK d = 1)), .bool (diB d)]) ∧ w0 = w') := fun w0 => specIsFund_any d w0 hd
  cases cn : negB d with
  | true =>
    have HR : Hid (fnB d = decide (fdK d = 1)) := by show _ = _; rw [fnB, cn, Bool.true_and]
    rw [diB_neg cn, Bool.true_and] at hcall
    rw [HR.out]
    generalize decide (fdK d = 1) = q at *
    cases q
    all_goals
      go_enter Try.func35, Try.ntmps35
      go_wp2_with (first | (go_at_call 70; refine (hcall.out _).mono ?_; rintro e w' ⟨rfl, rfl⟩) | (go_at_call 71; refine (reDisc_any _ _ hd).mono ?_; rintro e w' ⟨rfl, rfl⟩))
      go_ret
      exact ⟨rfl, rfl⟩
  | false =>
    have HR : Hid (fnB d = false) := by show _ = _; rw [fnB, cn, Bool.false_and]
    rw [HR.out]
    generalize decide (fdK d = 1) = q at *
    generalize diB d = r at *
    cases r <;> cases q
    all_goals
      go_enter Try.func35, Try.ntmps35
      go_wp2_with (first | (go_at_call 70; refine (hcall.out _).mono ?_; rintro e w' ⟨rfl, rfl⟩) | (go_at_call 71; refine (reDisc_any _ _ hd).mono ?_; rintro e w' ⟨rfl, rfl⟩))
      go_ret
      exact ⟨rfl, rfl⟩
set_option maxRecDepth 100000 in
set_option maxHeartbeats 2000000 in
theorem roots_any (d n : Int) (w : World) (d1 : -2000 ≤ d) (d2 : d ≤ 0) (n1 : 1 ≤ n) (n2 : n ≤ 10000) :
    Calls Try.prog 39 #[.int .i64 d, .int .i64 n] w fun en w' => ∃ v, en = .returned v ∧ Rw w.heap.size 3 1 c1 w' v (rtA d n) ∧ Below w.heap.size w w' := by
  go_enter Try.func39, Try.ntmps39
  go_wp2
  go_loopw [5, 6] (fun v i wr => ∃ k : Nat, i = .int .i64 (k : Int) ∧ (k : Int) ≤ 2 * n ∧ Hid (Rw w.heap.size 3 1 c1 wr v (rtL d n k)) ∧ Hid (Below w.heap.size w wr)) (fun _ i _ => (2 * n - intOf i).toNat)
  case atStart =>
    refine ⟨0, rfl, by omega, ?_, ?_⟩
    · show Rw _ _ _ _ _ _ _
      exact Rw.empty (Nat.le_refl _)
    · show Below _ _ _
      repeat (first | with_reducible exact Below.refl _ _ | with_reducible assumption | ((with_reducible refine blA ?_ ?_); (focus (first | omega | (simp <;> omega)))) | (with_reducible refine blD ?_) | (with_reducible refine blN ?_) | ((with_reducible refine blS ?_ ?_); (focus (first | omega | (simp <;> omega)))) | ((with_reducible refine blT (by assumption) ?_ ?_); (focus (first | omega | (simp <;> omega)))))
  case round =>
    obtain ⟨k, rfl, hk, hr, hb⟩ := hrel
    have hbz := hb.out.size
    by_cases hlt : (k : Int) < 2 * n
    · have hs1 := sq_le_sq (show (0 : Int) ≤ (k : Int) by omega) (show (k : Int) ≤ 20000 by omega)
      have hs2 : (k : Int) * k ≤ 400000000 := by omega
      have hs3 := self_le_sq k
      clear hs1
      have hl := rtL_len d n k
      by_cases hc : ((k : Int) * k - d) % (4 * n) = 0
      · have HN : Hid (rtL d n (k + 1) = rtL d n k ++ [(k : Int)]) := by show _ = _; rw [rtL, if_pos hc]
        have hz : (((k : Int) * k - d) % (4 * n) == 0) = true := by simp [hc]
        clear hc
        go_wp2_with (at_builtin; go_loud (refine app_int (hr.out.alloc _) (by rfl) _ _ _ (by rfl) (by kernel_rfl) (by rfl) _ (k : Int) (by rfl) (heap_alloc_new _ _) (by omega) (by simp; omega) ?_))
        intro v1' w1 hr1' hg1 hat1
        have hb1 : Below w.heap.size w w1 := below_of_grown (hb.out.alloc hb.out.size _) hg1 (by have := hb.out.size; simp; omega) (fun g hg => (hr.out.lt g hg).1)
        have HR1 := Lib.hid hr1'
        have HB := Lib.hid hb1
        clear hr1' hb1 hg1 hat1
        go_wp2
        go_roundw
        case rel =>
          go_light
          refine ⟨k + 1, by go_num, by omega, ?_, HB.out⟩
          show Rw _ _ _ _ _ _ _
          rw [HN.out]
          exact HR1.out
        case measure => simp [intOf]; omega
      · have HN : Hid (rtL d n (k + 1) = rtL d n k) := by show _ = _; rw [rtL, if_neg hc]
        have hz : (((k : Int) * k - d) % (4 * n) == 0) = false := by simp [hc]
        clear hc
        go_wp2
        go_roundw
        case rel =>
          go_light
          refine ⟨k + 1, by go_num, by omega, ?_, hb.out⟩
          show Rw _ _ _ _ _ _ _
          rw [HN.out]
          exact hr.out
        case measure => simp [intOf]; omega
    · have HE : Hid (rtA d n = rtL d n k) := by show _ = _; unfold rtA; congr 1; omega
      go_wp2
      go_ret
      refine ⟨_, rfl, ?_, hb.out⟩
      rw [HE.out]
      exact hr.out
end Go.Proofs.Ytladcjoiaoaedaa
