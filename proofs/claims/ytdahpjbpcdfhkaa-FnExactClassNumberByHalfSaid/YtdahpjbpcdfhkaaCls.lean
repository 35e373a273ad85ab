/-
  Class numbers by sums of symbols, both ways. Printed by mkcls.py.
-/
import Derived.Test.YtdahpjbpcdfhkaaFnd
import Derived.Test.YtdahpjbpcdfhkaaKro
namespace Go.Proofs.Ytdahpjbpcdfhkaa
open Go.RowKit
attribute [local simp, local go_sem] past_cell past_frozen past_tape
def csS (d : Int) : Nat → Int
  | 0 => 0
  | k + 1 => csS d k + ((k : Int) + 1) * kro d (k + 1)
def chS (d : Int) : Nat → Int
  | 0 => 0
  | k + 1 => chS d k + kro d (k + 1)
theorem term_bd {d : Int} {k : Nat} (hk : k < 2000) : Bd 2000 (((k : Int) + 1) * kro d (k + 1)) := mul_bd (k := 2000) (m := 1) ⟨by omega, by omega⟩ (kro_bd _ _) (by omega)
theorem csS_bd (d : Int) (k : Nat) (hk : k ≤ 2000) : -(2000 * (k : Int)) ≤ csS d k ∧ csS d k ≤ 2000 * k := by
  induction k with
  | zero => exact ⟨by simp [csS], by simp [csS]⟩
  | succ k ih =>
    obtain ⟨h1, h2⟩ := ih (by omega)
    obtain ⟨b1, b2⟩ := term_bd (d := d) (k := k) (by omega)
    unfold csS
    omega
theorem chS_bd (d : Int) (k : Nat) : -(k : Int) ≤ chS d k ∧ chS d k ≤ k := by
  induction k with
  | zero => exact ⟨by simp [chS], by simp [chS]⟩
  | succ k ih =>
    obtain ⟨b1, b2⟩ := kro_bd d (k + 1)
    unfold chS
    omega
def auC (d : Int) : Int := if d = -3 then 6 else if d = -4 then 4 else 2
theorem auC_bd (d : Int) : 2 ≤ auC d ∧ auC d ≤ 6 := by unfold auC; split; omega; split <;> omega
def cbS (d : Int) : Int := if fnB d then (auC d * csS d (-d - 1).toNat).tdiv (2 * d) else 0
def cbH (d : Int) : Int := if fnB d && decide (d < -4) then (chS d ((-d - 1) / 2).toNat).tdiv (2 - kro d 2) else 0
theorem automorphCount_any (d : Int) (w : World) (hd : I64 d) (hn : negB d = true) : Calls Try.prog 42 #[.int .i64 d] w fun en w' => en = .returned (.int .i64 (auC d)) ∧ w = w' := by
  have key : ∀ w0 : World, Calls Try.prog 69 #[.int .i64 d] w0 fun en w' => en = .returned (.tuple #[.int .i64 (auC d), .bool true]) ∧ w0 = w' := by
    intro w0
    by_cases h3 : d = -3
    · subst h3
      go_enter Try.func69, Try.ntmps69
      go_wp2_with (go_at_call 34; refine (isNegativeDisc_any _ _ hd).mono ?_; rintro e w' ⟨rfl, rfl⟩)
      go_ret2
      exact ⟨rfl, rfl⟩
    · by_cases h4 : d = -4
      · subst h4
        go_enter Try.func69, Try.ntmps69
        go_wp2_with (go_at_call 34; refine (isNegativeDisc_any _ _ hd).mono ?_; rintro e w' ⟨rfl, rfl⟩)
        go_ret2
        exact ⟨rfl, rfl⟩
      · have HR : Hid (auC d = 2) := by show _ = _; rw [auC, if_neg h3, if_neg h4]
        have b3 : (d == -3) = false := by simp [h3]
        have b4 : (d == -4) = false := by simp [h4]
        go_enter Try.func69, Try.ntmps69
        go_wp2_with (go_at_call 34; refine (isNegativeDisc_any _ _ hd).mono ?_; rintro e w' ⟨rfl, rfl⟩)
        go_ret2
        exact ⟨(by rw [HR.out]; try rfl), rfl⟩
  have HK := Lib.hid key
  clear key
  go_enter Try.func42, Try.ntmps42
  go_wp2_with (go_at_call 69; refine (HK.out _).mono ?_; rintro e w' ⟨rfl, rfl⟩)
  go_ret
  exact ⟨rfl, rfl⟩
theorem reUnits_any (d : Int) (w : World) : Calls Try.prog 41 #[.int .i64 d] w fun en w' => en = .returned (.int .i64 (auC d)) ∧ w = w' := by
  by_cases h3 : d = -3
  · subst h3
    go_enter Try.func41, Try.ntmps41
    go_wp2
    go_ret
    exact ⟨rfl, rfl⟩
  · by_cases h4 : d = -4
    · subst h4
      go_enter Try.func41, Try.ntmps41
      go_wp2
      go_ret
      exact ⟨rfl, rfl⟩
    · have HR : Hid (auC d = 2) := by show _ = _; rw [auC, if_neg h3, if_neg h4]
      have b3 : (d == -3) = false := by simp [h3]
      have b4 : (d == -4) = false := by simp [h4]
      go_enter Try.func41, Try.ntmps41
      go_wp2
      go_ret
      exact ⟨ret_int HR.out.symm, rfl⟩
set_option maxRecDepth 100000 in
set_option maxHeartbeats 4000000 in
theorem implBySum_any (d : Int) (w : World) (hd : I64 d) : Calls Try.prog 19 #[.int .i64 d] w fun en w' => en = .returned (.tuple #[.int .i64 (cbS d), .bool (fnB d)]) ∧ Below w.heap.size w w' := by
  cases c : fnB d with
  | false =>
    have HR : Hid (cbS d = 0) := by show _ = _; rw [cbS, if_neg (by rw [c]; decide)]
    rw [HR.out]
    go_enter Try.func19, Try.ntmps19
    go_wp2_with (go_at_call 39; refine (isFundNeg_any _ _ hd).mono ?_; rintro e w' ⟨rfl, rfl⟩)
    go_ret2
    exact ⟨rfl, Below.refl _ _⟩
  | true =>
    have hn := fnB_neg c
    obtain ⟨n1, n2, _⟩ := negB_true hn
    have HR : Hid (cbS d = (auC d * csS d (-d - 1).toNat).tdiv (2 * d)) := by show _ = _; rw [cbS, if_pos c]
    have HB := Lib.hid (csS_bd d)
    go_enter Try.func19, Try.ntmps19
    go_wp2_with (go_at_call 39; refine (isFundNeg_any _ _ hd).mono ?_; rintro e w' ⟨rfl, rfl⟩)
    go_loopw [4, 5] (fun v i wr => ∃ k : Nat, i = .int .i64 ((k : Int) + 1) ∧ (k : Int) + 1 ≤ -d ∧ v = .int .i64 (csS d k) ∧ Hid (Below w.heap.size w wr)) (fun _ i _ => (-d - intOf i).toNat)
    case atStart => exact ⟨0, by go_num, by omega, rfl, Below.refl _ _⟩
    case round =>
      obtain ⟨k, rfl, hk, rfl, hb⟩ := hrel
      obtain ⟨b1, b2⟩ := HB.out k (by omega)
      by_cases hlt : (k : Int) + 1 < -d
      · have HS : Hid (csS d (k + 1) = csS d k + ((k : Int) + 1) * kro d (k + 1)) := Lib.hid rfl
        obtain ⟨t1, t2⟩ := term_bd (d := d) (k := k) (by omega)
        obtain ⟨q1, q2⟩ := kro_bd d (k + 1)
        have hcall : Hid (∀ w0, Calls Try.prog 40 #[.int .i64 d, .int .i64 ((k : Int) + 1)] w0 fun en w' => en = .returned (.int .i64 (kro d (k + 1))) ∧ w0 = w') := by
          show ∀ w0, _
          intro w0
          exact kronecker_any d (k + 1) w0 ⟨by omega, by omega⟩ (by omega) (by omega)
        generalize csS d k = q at *
        generalize kro d (k + 1) = r at *
        go_wp2_with fail
        refine (hcall.out _).mono ?_
        rintro e wa ⟨rfl, rfl⟩
        skip
        go_wp2
        go_roundw
        case rel =>
          go_light
          exact ⟨k + 1, by go_num, by omega, by rw [HS.out], hb.out⟩
        case measure => simp [intOf]; omega
      · have hk' : (-d - 1).toNat = k := by omega
        rw [hk'] at HR
        clear hk'
        obtain ⟨a1, a2⟩ := auC_bd d
        have hm := mul_bd (k := 6) (m := 4000000) (n := 24000000) (a := auC d) (b := csS d k) ⟨by omega, by omega⟩ ⟨by omega, by omega⟩ (by omega)
        obtain ⟨w1, w2⟩ := tdiv_bd (2 * d) hm
        obtain ⟨m1, m2⟩ := hm
        have hcall : Hid (∀ w0, Calls Try.prog 42 #[.int .i64 d] w0 fun en w' => en = .returned (.int .i64 (auC d)) ∧ w0 = w') := fun w0 => automorphCount_any d w0 hd hn
        generalize csS d k = q at *
        generalize auC d = r at *
        go_wp2_with (go_at_call 42; refine (hcall.out _).mono ?_; rintro e w' ⟨rfl, rfl⟩)
        go_ret2
        exact ⟨(by rw [HR.out]; try rfl), hb.out⟩
set_option maxRecDepth 100000 in
set_option maxHeartbeats 4000000 in
theorem implByHalf_any (d : Int) (w : World) (hd : I64 d) : Calls Try.prog 17 #[.int .i64 d] w fun en w' => en = .returned (.tuple #[.int .i64 (cbH d), .bool (fnB d && decide (d < -4))]) ∧ Below w.heap.size w w' := by
  cases c : (fnB d && decide (d < -4)) with
  | false =>
    have HR : Hid (cbH d = 0) := by show _ = _; rw [cbH, if_neg (by rw [c]; decide)]
    rw [HR.out]
    cases c1 : fnB d with
    | false =>
      go_enter Try.func17, Try.ntmps17
      go_wp2_with (go_at_call 39; refine (isFundNeg_any _ _ hd).mono ?_; rintro e w' ⟨rfl, rfl⟩)
      go_ret2
      exact ⟨rfl, Below.refl _ _⟩
    | true =>
      have c2 : -4 ≤ d := by rw [c1, Bool.true_and] at c; have := of_decide_eq_false c; omega
      go_enter Try.func17, Try.ntmps17
      go_wp2_with (go_at_call 39; refine (isFundNeg_any _ _ hd).mono ?_; rintro e w' ⟨rfl, rfl⟩)
      go_ret2
      exact ⟨rfl, Below.refl _ _⟩
  | true =>
    obtain ⟨c1, c2⟩ : fnB d = true ∧ d < -4 := by simpa using c
    have hn := fnB_neg c1
    obtain ⟨n1, n2, _⟩ := negB_true hn
    have HR : Hid (cbH d = (chS d ((-d - 1) / 2).toNat).tdiv (2 - kro d 2)) := by show _ = _; rw [cbH, if_pos c]
    have HB := Lib.hid (chS_bd d)
    clear c
    go_enter Try.func17, Try.ntmps17
    go_wp2_with (go_at_call 39; refine (isFundNeg_any _ _ hd).mono ?_; rintro e w' ⟨rfl, rfl⟩)
    go_loopw [4, 5] (fun v i wr => ∃ k : Nat, i = .int .i64 ((k : Int) + 1) ∧ 2 * (k : Int) < -d ∧ v = .int .i64 (chS d k) ∧ Hid (Below w.heap.size w wr)) (fun _ i _ => (-d - intOf i).toNat)
    case atStart => exact ⟨0, by go_num, by omega, rfl, Below.refl _ _⟩
    case round =>
      obtain ⟨k, rfl, hk, rfl, hb⟩ := hrel
      obtain ⟨b1, b2⟩ := HB.out k
      by_cases hlt : 2 * ((k : Int) + 1) < -d
      · have HS : Hid (chS d (k + 1) = chS d k + kro d (k + 1)) := Lib.hid rfl
        obtain ⟨q1, q2⟩ := kro_bd d (k + 1)
        have hcall : Hid (∀ w0, Calls Try.prog 40 #[.int .i64 d, .int .i64 ((k : Int) + 1)] w0 fun en w' => en = .returned (.int .i64 (kro d (k + 1))) ∧ w0 = w') := by
          show ∀ w0, _
          intro w0
          exact kronecker_any d (k + 1) w0 ⟨by omega, by omega⟩ (by omega) (by omega)
        generalize chS d k = q at *
        generalize kro d (k + 1) = r at *
        go_wp2_with fail
        refine (hcall.out _).mono ?_
        rintro e wa ⟨rfl, rfl⟩
        skip
        go_wp2
        go_roundw
        case rel =>
          go_light
          exact ⟨k + 1, by go_num, by omega, by rw [HS.out], hb.out⟩
        case measure => simp [intOf]; omega
      · have hk' : ((-d - 1) / 2).toNat = k := by omega
        rw [hk'] at HR
        clear hk'
        obtain ⟨q1, q2⟩ := kro_bd d 2
        have hcall : Hid (∀ w0, Calls Try.prog 40 #[.int .i64 d, .int .i64 2] w0 fun en w' => en = .returned (.int .i64 (kro d 2)) ∧ w0 = w') := by
          show ∀ w0, _
          intro w0
          exact kronecker_any d 2 w0 ⟨by omega, by omega⟩ (by omega) (by omega)
        generalize chS d k = q at *
        generalize kro d 2 = r at *
        go_wp2_with fail
        refine (hcall.out _).mono ?_
        rintro e wa ⟨rfl, rfl⟩
        skip
        go_wp2
        go_ret2
        exact ⟨(by rw [HR.out]; try rfl), hb.out⟩
set_option maxRecDepth 100000 in
set_option maxHeartbeats 4000000 in
theorem specBySum_any (d : Int) (w : World) (hd : I64 d) : Calls Try.prog 18 #[.int .i64 d] w fun en w' => en = .returned (.tuple #[.int .i64 (cbS d), .bool (fnB d)]) ∧ Below w.heap.size w w' := by
  cases c : fnB d with
  | false =>
    have HR : Hid (cbS d = 0) := by show _ = _; rw [cbS, if_neg (by rw [c]; decide)]
    rw [HR.out]
    go_enter Try.func18, Try.ntmps18
    go_wp2_with (go_at_call 37; refine (huFund_any _ _ hd).mono ?_; rintro e w' ⟨rfl, rfl⟩)
    go_ret2
    exact ⟨rfl, Below.refl _ _⟩
  | true =>
    have hn := fnB_neg c
    obtain ⟨n1, n2, _⟩ := negB_true hn
    have HR : Hid (cbS d = (auC d * csS d (-d - 1).toNat).tdiv (2 * d)) := by show _ = _; rw [cbS, if_pos c]
    have HB := Lib.hid (csS_bd d)
    go_enter Try.func18, Try.ntmps18
    go_wp2_with (go_at_call 37; refine (huFund_any _ _ hd).mono ?_; rintro e w' ⟨rfl, rfl⟩)
    go_loopw [4, 5] (fun v i wr => ∃ k : Nat, i = .int .i64 ((k : Int) + 1) ∧ (k : Int) + 1 ≤ -d ∧ v = .int .i64 (csS d k) ∧ Hid (Below w.heap.size w wr)) (fun _ i _ => (-d - intOf i).toNat)
    case atStart => exact ⟨0, by go_num, by omega, rfl, Below.refl _ _⟩
    case round =>
      obtain ⟨k, rfl, hk, rfl, hb⟩ := hrel
      obtain ⟨b1, b2⟩ := HB.out k (by omega)
      by_cases hlt : (k : Int) + 1 < -d
      · have HS : Hid (csS d (k + 1) = csS d k + ((k : Int) + 1) * kro d (k + 1)) := Lib.hid rfl
        obtain ⟨t1, t2⟩ := term_bd (d := d) (k := k) (by omega)
        obtain ⟨q1, q2⟩ := kro_bd d (k + 1)
        have hcall : Hid (∀ w0, Calls Try.prog 38 #[.int .i64 d, .int .i64 ((k : Int) + 1)] w0 fun en w' => en = .returned (.int .i64 (kro d (k + 1))) ∧ Below w0.heap.size w0 w') := by
          show ∀ w0, _
          intro w0
          exact syKronecker_any d (k + 1) w0 ⟨by omega, by omega⟩ (by omega) (by omega)
        generalize csS d k = q at *
        generalize kro d (k + 1) = r at *
        go_wp2_with fail
        refine (hcall.out _).mono ?_
        rintro e wa ⟨rfl, hBa⟩
        have hb2 := Lib.hid (hb.out.trans (hBa.mono hb.out.size)); clear hBa
        go_wp2
        go_roundw
        case rel =>
          go_light
          exact ⟨k + 1, by go_num, by omega, by rw [HS.out], hb2.out⟩
        case measure => simp [intOf]; omega
      · have hk' : (-d - 1).toNat = k := by omega
        rw [hk'] at HR
        clear hk'
        obtain ⟨a1, a2⟩ := auC_bd d
        have hm := mul_bd (k := 6) (m := 4000000) (n := 24000000) (a := auC d) (b := csS d k) ⟨by omega, by omega⟩ ⟨by omega, by omega⟩ (by omega)
        obtain ⟨w1, w2⟩ := tdiv_bd (2 * d) hm
        obtain ⟨m1, m2⟩ := hm
        have hcall : Hid (∀ w0, Calls Try.prog 41 #[.int .i64 d] w0 fun en w' => en = .returned (.int .i64 (auC d)) ∧ w0 = w') := fun w0 => reUnits_any d w0
        generalize csS d k = q at *
        generalize auC d = r at *
        go_wp2_with (go_at_call 41; refine (hcall.out _).mono ?_; rintro e w' ⟨rfl, rfl⟩)
        go_ret2
        exact ⟨(by rw [HR.out]; try rfl), hb.out⟩
set_option maxRecDepth 100000 in
set_option maxHeartbeats 4000000 in
theorem specByHalf_any (d : Int) (w : World) (hd : I64 d) : Calls Try.prog 16 #[.int .i64 d] w fun en w' => en = .returned (.tuple #[.int .i64 (cbH d), .bool (fnB d && decide (d < -4))]) ∧ Below w.heap.size w w' := by
  cases c : (fnB d && decide (d < -4)) with
  | false =>
    have HR : Hid (cbH d = 0) := by show _ = _; rw [cbH, if_neg (by rw [c]; decide)]
    rw [HR.out]
    cases c1 : fnB d with
    | false =>
      go_enter Try.func16, Try.ntmps16
      go_wp2_with (go_at_call 37; refine (huFund_any _ _ hd).mono ?_; rintro e w' ⟨rfl, rfl⟩)
      go_ret2
      exact ⟨rfl, Below.refl _ _⟩
    | true =>
      have c2 : -4 ≤ d := by rw [c1, Bool.true_and] at c; have := of_decide_eq_false c; omega
      go_enter Try.func16, Try.ntmps16
      go_wp2_with (go_at_call 37; refine (huFund_any _ _ hd).mono ?_; rintro e w' ⟨rfl, rfl⟩)
      go_ret2
      exact ⟨rfl, Below.refl _ _⟩
  | true =>
    obtain ⟨c1, c2⟩ : fnB d = true ∧ d < -4 := by simpa using c
    have hn := fnB_neg c1
    obtain ⟨n1, n2, _⟩ := negB_true hn
    have HR : Hid (cbH d = (chS d ((-d - 1) / 2).toNat).tdiv (2 - kro d 2)) := by show _ = _; rw [cbH, if_pos c]
    have HB := Lib.hid (chS_bd d)
    clear c
    go_enter Try.func16, Try.ntmps16
    go_wp2_with (go_at_call 37; refine (huFund_any _ _ hd).mono ?_; rintro e w' ⟨rfl, rfl⟩)
    go_loopw [4, 5] (fun v i wr => ∃ k : Nat, i = .int .i64 ((k : Int) + 1) ∧ 2 * (k : Int) < -d ∧ v = .int .i64 (chS d k) ∧ Hid (Below w.heap.size w wr)) (fun _ i _ => (-d - intOf i).toNat)
    case atStart => exact ⟨0, by go_num, by omega, rfl, Below.refl _ _⟩
    case round =>
      obtain ⟨k, rfl, hk, rfl, hb⟩ := hrel
      obtain ⟨b1, b2⟩ := HB.out k
      by_cases hlt : 2 * ((k : Int) + 1) < -d
      · have HS : Hid (chS d (k + 1) = chS d k + kro d (k + 1)) := Lib.hid rfl
        obtain ⟨q1, q2⟩ := kro_bd d (k + 1)
        have hcall : Hid (∀ w0, Calls Try.prog 38 #[.int .i64 d, .int .i64 ((k : Int) + 1)] w0 fun en w' => en = .returned (.int .i64 (kro d (k + 1))) ∧ Below w0.heap.size w0 w') := by
          show ∀ w0, _
          intro w0
          exact syKronecker_any d (k + 1) w0 ⟨by omega, by omega⟩ (by omega) (by omega)
        generalize chS d k = q at *
        generalize kro d (k + 1) = r at *
        go_wp2_with fail
        refine (hcall.out _).mono ?_
        rintro e wa ⟨rfl, hBa⟩
        have hb2 := Lib.hid (hb.out.trans (hBa.mono hb.out.size)); clear hBa
        go_wp2
        go_roundw
        case rel =>
          go_light
          exact ⟨k + 1, by go_num, by omega, by rw [HS.out], hb2.out⟩
        case measure => simp [intOf]; omega
      · have hk' : ((-d - 1) / 2).toNat = k := by omega
        rw [hk'] at HR
        clear hk'
        obtain ⟨q1, q2⟩ := kro_bd d 2
        have hcall : Hid (∀ w0, Calls Try.prog 38 #[.int .i64 d, .int .i64 2] w0 fun en w' => en = .returned (.int .i64 (kro d 2)) ∧ Below w0.heap.size w0 w') := by
          show ∀ w0, _
          intro w0
          exact syKronecker_any d 2 w0 ⟨by omega, by omega⟩ (by omega) (by omega)
        generalize chS d k = q at *
        generalize kro d 2 = r at *
        go_wp2_with fail
        refine (hcall.out _).mono ?_
        rintro e wa ⟨rfl, hBa⟩
        have hb2 := Lib.hid (hb.out.trans (hBa.mono hb.out.size)); clear hBa
        go_wp2
        go_ret2
        exact ⟨(by rw [HR.out]; try rfl), hb2.out⟩
theorem law_classNumberBySum (d : Int) (w : World) (hd : I64 d) : Calls Try.prog 5 #[.int .i64 d] w fun en w' => en = .returned (.bool true) ∧ Below w.heap.size w w' := by
  go_enter Try.func5, Try.ntmps5
  go_wp2_with (first | (go_at_call 19; refine (implBySum_any _ _ hd).mono ?_; rintro e w' ⟨rfl, hB⟩; obtain ⟨hC, hF⟩ := bcell hB; have hS := hB.size; (try simp at hS); (try have hSl := Nat.lt_of_succ_le hS); (try have hS0 : w.heap.size < w'.heap.size := by omega); (try have hS1 : w.heap.size + 1 < w'.heap.size := by omega); (try have hS2 : w.heap.size + 1 + 1 < w'.heap.size := by omega); (try have hS3 : w.heap.size + 1 + 1 + 1 < w'.heap.size := by omega)) | (go_at_call 18; refine (specBySum_any _ _ hd).mono ?_; rintro e w' ⟨rfl, hB⟩; obtain ⟨hC, hF⟩ := bcell hB; have hS := hB.size; (try simp at hS); (try have hSl := Nat.lt_of_succ_le hS); (try have hS0 : w.heap.size < w'.heap.size := by omega); (try have hS1 : w.heap.size + 1 < w'.heap.size := by omega); (try have hS2 : w.heap.size + 1 + 1 < w'.heap.size := by omega); (try have hS3 : w.heap.size + 1 + 1 + 1 < w'.heap.size := by omega)))
  go_ret
  refine ⟨rfl, ?_⟩
  repeat (first | with_reducible exact Below.refl _ _ | with_reducible assumption | ((with_reducible refine blA ?_ ?_); (focus (first | omega | (simp <;> omega)))) | (with_reducible refine blD ?_) | (with_reducible refine blN ?_) | ((with_reducible refine blS ?_ ?_); (focus (first | omega | (simp <;> omega)))) | ((with_reducible refine blT (by assumption) ?_ ?_); (focus (first | omega | (simp <;> omega)))))
theorem law_classNumberByHalf (d : Int) (w : World) (hd : I64 d) : Calls Try.prog 4 #[.int .i64 d] w fun en w' => en = .returned (.bool true) ∧ Below w.heap.size w w' := by
  go_enter Try.func4, Try.ntmps4
  go_wp2_with (first | (go_at_call 17; refine (implByHalf_any _ _ hd).mono ?_; rintro e w' ⟨rfl, hB⟩; obtain ⟨hC, hF⟩ := bcell hB; have hS := hB.size; (try simp at hS); (try have hSl := Nat.lt_of_succ_le hS); (try have hS0 : w.heap.size < w'.heap.size := by omega); (try have hS1 : w.heap.size + 1 < w'.heap.size := by omega); (try have hS2 : w.heap.size + 1 + 1 < w'.heap.size := by omega); (try have hS3 : w.heap.size + 1 + 1 + 1 < w'.heap.size := by omega)) | (go_at_call 16; refine (specByHalf_any _ _ hd).mono ?_; rintro e w' ⟨rfl, hB⟩; obtain ⟨hC, hF⟩ := bcell hB; have hS := hB.size; (try simp at hS); (try have hSl := Nat.lt_of_succ_le hS); (try have hS0 : w.heap.size < w'.heap.size := by omega); (try have hS1 : w.heap.size + 1 < w'.heap.size := by omega); (try have hS2 : w.heap.size + 1 + 1 < w'.heap.size := by omega); (try have hS3 : w.heap.size + 1 + 1 + 1 < w'.heap.size := by omega)))
  go_ret
  refine ⟨rfl, ?_⟩
  repeat (first | with_reducible exact Below.refl _ _ | with_reducible assumption | ((with_reducible refine blA ?_ ?_); (focus (first | omega | (simp <;> omega)))) | (with_reducible refine blD ?_) | (with_reducible refine blN ?_) | ((with_reducible refine blS ?_ ?_); (focus (first | omega | (simp <;> omega)))) | ((with_reducible refine blT (by assumption) ?_ ?_); (focus (first | omega | (simp <;> omega)))))
end Go.Proofs.Ytdahpjbpcdfhkaa
