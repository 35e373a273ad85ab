/-
  Square-free parts and conductors, both ways. Printed by mkfund.py.
-/
import Derived.Test.YtladcjoiaoaedaaPrime
import Derived.Test.YtladcjoiaoaedaaDisc
namespace Go.Proofs.Ytladcjoiaoaedaa
open Go.RowKit
attribute [local simp, local go_sem] past_cell past_frozen past_tape
def sqIn (p : Int) : Nat → Int → Int → Int × Int
  | 0, n, k => (n, k)
  | f + 1, n, k => if n.tmod (p * p) = 0 then sqIn p f (n.tdiv (p * p)) (k * p) else (n, k)
def sqOut : Nat → Int → Int × Int → Int × Int
  | 0, _, s => s
  | f + 1, p, s => if p * p ≤ (s.1.natAbs : Int) then sqOut f (p + 1) (sqIn p s.1.natAbs s.1 s.2) else s
def sqf (n : Int) : Int × Int := sqOut 1000 2 (n, 1)
theorem sq_bd {n k m : Int} (h : n * (k * k) = m) (hn : n ≠ 0) (hm : Bd 1000000 m) (hk : 1 ≤ k) : Bd 1000000 n ∧ k ≤ 1000 := by
  rw [bd_iff] at hm
  rw [← h, Int.natAbs_mul, Int.natCast_mul, Int.natAbs_mul, Int.natCast_mul] at hm
  have h1 : (1 : Int) ≤ (n.natAbs : Int) := by omega
  have h2 : ((k.natAbs : Nat) : Int) = k := by omega
  rw [h2] at hm
  have h3 : k * 1 ≤ k * k := Int.mul_le_mul_of_nonneg_left hk (by omega)
  have h4 : (n.natAbs : Int) * 1 ≤ (n.natAbs : Int) * (k * k) := Int.mul_le_mul_of_nonneg_left (by omega) (by omega)
  have h5 : 1 * (k * k) ≤ (n.natAbs : Int) * (k * k) := Int.mul_le_mul_of_nonneg_right h1 (by omega)
  refine ⟨bd_iff.2 (by omega), ?_⟩
  rcases Int.lt_or_le 1000 k with h6 | h6
  · have := sq_le_sq (show (0 : Int) ≤ 1001 by omega) (show (1001 : Int) ≤ k by omega)
    omega
  · exact h6
theorem sq_div {n p : Int} (hp : 2 ≤ p) (hn : n ≠ 0) (h : n.tmod (p * p) = 0) : n.tdiv (p * p) ≠ 0 ∧ (n.tdiv (p * p)).natAbs < n.natAbs ∧ (∀ k : Int, n.tdiv (p * p) * ((k * p) * (k * p)) = n * (k * k)) := by
  have hpp : 4 ≤ p * p := sq_le_sq (show (0 : Int) ≤ 2 by omega) hp
  have hd : p * p * n.tdiv (p * p) = n := Int.mul_tdiv_cancel' (Int.dvd_of_tmod_eq_zero h)
  generalize n.tdiv (p * p) = q at hd ⊢
  have hq : q ≠ 0 := by rintro rfl; rw [Int.mul_zero] at hd; exact hn hd.symm
  refine ⟨hq, ?_, fun k => ?_⟩
  · rw [← hd, Int.natAbs_mul]
    have h1 : 4 ≤ (p * p).natAbs := by omega
    have := Nat.mul_le_mul_right q.natAbs h1
    omega
  · rw [← hd]; grind
theorem sqIn_inv {p : Int} (hp : 2 ≤ p) (f : Nat) : ∀ n k : Int, n ≠ 0 → 1 ≤ k → (sqIn p f n k).1 ≠ 0 ∧ 1 ≤ (sqIn p f n k).2 ∧ (sqIn p f n k).1 * ((sqIn p f n k).2 * (sqIn p f n k).2) = n * (k * k) := by
  induction f with
  | zero => intro n k h1 h2; exact ⟨h1, h2, rfl⟩
  | succ f ih =>
    intro n k h1 h2
    unfold sqIn
    split
    · rename_i h
      obtain ⟨q1, _, q3⟩ := sq_div hp h1 h
      have hk := Int.mul_le_mul h2 (show (1 : Int) ≤ p by omega) (by omega) (by omega)
      obtain ⟨r1, r2, r3⟩ := ih (n.tdiv (p * p)) (k * p) q1 (by omega)
      exact ⟨r1, r2, by rw [r3, q3]⟩
    · exact ⟨h1, h2, rfl⟩
theorem sqOut_inv (f : Nat) : ∀ (p : Int) (s : Int × Int), 2 ≤ p → s.1 ≠ 0 → 1 ≤ s.2 → (sqOut f p s).1 ≠ 0 ∧ 1 ≤ (sqOut f p s).2 ∧ (sqOut f p s).1 * ((sqOut f p s).2 * (sqOut f p s).2) = s.1 * (s.2 * s.2) := by
  induction f with
  | zero => intro p s _ h1 h2; exact ⟨h1, h2, rfl⟩
  | succ f ih =>
    intro p s hp h1 h2
    unfold sqOut
    split
    · obtain ⟨r1, r2, r3⟩ := sqIn_inv hp s.1.natAbs s.1 s.2 h1 h2
      obtain ⟨t1, t2, t3⟩ := ih (p + 1) (sqIn p s.1.natAbs s.1 s.2) (by omega) r1 r2
      exact ⟨t1, t2, by rw [t3, r3]⟩
    · exact ⟨h1, h2, rfl⟩
theorem sqf_inv {m : Int} (h0 : m ≠ 0) (hm : Bd 1000000 m) : (sqf m).1 ≠ 0 ∧ 1 ≤ (sqf m).2 ∧ (sqf m).2 ≤ 1000 ∧ Bd 1000000 (sqf m).1 ∧ (sqf m).1 * ((sqf m).2 * (sqf m).2) = m := by
  obtain ⟨h1, h2, h3⟩ := sqOut_inv 1000 2 (m, 1) (by omega) h0 (by show (1 : Int) ≤ 1; omega)
  have h3' : (sqf m).1 * ((sqf m).2 * (sqf m).2) = m := by unfold sqf; rw [h3]; show m * (1 * 1) = m; omega
  obtain ⟨h4, h5⟩ := sq_bd h3' h1 hm h2
  exact ⟨h1, h2, h5, h4, h3'⟩
/-- The fundamental part and the conductor. -/
def fdE (d : Int) : Int := if (sqf d).1 % 4 = 1 then (sqf d).1 else 4 * (sqf d).1
def fdK (d : Int) : Int := if (sqf d).1 % 4 = 1 then (sqf d).2 else (sqf d).2 / 2
theorem fdK_bd {d : Int} (h0 : d ≠ 0) (hd : Bd 1000000 d) : 0 ≤ fdK d ∧ fdK d ≤ 1000 := by
  obtain ⟨_, h1, h2, _⟩ := sqf_inv h0 hd
  unfold fdK
  split <;> omega
set_option maxRecDepth 100000 in
set_option maxHeartbeats 4000000 in
theorem squareFree_any (m : Int) (w : World) (hm0 : m ≠ 0) (hm : Bd 1000000 m) : Calls Try.prog 99 #[.int .i64 m] w fun en w' => en = .returned (.tuple #[.int .i64 ((sqf m).1), .int .i64 ((sqf m).2)]) ∧ w = w' ∧ 1 ≤ (sqf m).2 ∧ (sqf m).2 ≤ 1000 ∧ Bd 1000000 (sqf m).1 ∧ (sqf m).1 ≠ 0 ∧ (sqf m).1 * ((sqf m).2 * (sqf m).2) = m := by
  have HM := Lib.hid hm
  clear hm
  go_enter Try.func99, Try.ntmps99
  go_wp2
  go_loop [0, 4, 5] (fun nn kk pp => ∃ (n k : Int) (p f : Nat), nn = .int .i64 n ∧ kk = .int .i64 k ∧ pp = .int .i64 (p : Int) ∧ 2 ≤ p ∧ p ≤ 1001 ∧ n ≠ 0 ∧ 1 ≤ k ∧ Hid (n * (k * k) = m) ∧ Hid (sqOut f p (n, k) = sqf m) ∧ 1002 ≤ f + p) (fun _ _ pp => (1001 - intOf pp).toNat)
  case atStart => exact ⟨m, 1, 2, 1000, rfl, rfl, rfl, by omega, by omega, hm0, by omega, by show _ = _; omega, rfl, by omega⟩
  case round =>
    obtain ⟨n, k, p, f, rfl, rfl, rfl, hp1, hp2, hn0, hk1, hnk, hout, hfp⟩ := hrel
    obtain ⟨⟨hb1, hb2⟩, hk2⟩ := sq_bd hnk.out hn0 HM.out hk1
    have hJ : J64 n := ⟨by omega, by omega⟩
    have hpb := sq_le_sq (show (0 : Int) ≤ (p : Int) by omega) (show (p : Int) ≤ 1001 by omega)
    have hpb2 : (p : Int) * p ≤ 1002001 := by omega
    have hpb0 := self_le_sq p
    clear hpb
    by_cases hlt : (p : Int) * p ≤ (n.natAbs : Int)
    · have hp3 : p ≤ 1000 := by
        rcases Nat.lt_or_ge 1000 p with h | h
        · have := sq_le_sq (show (0 : Int) ≤ 1001 by omega) (show (1001 : Int) ≤ (p : Int) by omega)
          omega
        · exact h
      clear hpb2
      obtain ⟨f', rfl⟩ : ∃ f', f = f' + 1 := ⟨f - 1, by omega⟩
      have hstep : Hid (sqOut f' ((p : Int) + 1) (sqIn p n.natAbs n k) = sqf m) := by
        show _ = _
        rw [← hout.out, sqOut, if_pos hlt]
      obtain ⟨R, hR⟩ : ∃ R, R = sqIn p n.natAbs n k := ⟨_, rfl⟩
      rw [← hR] at hstep
      have HR := Lib.hid hR
      clear hR hout
      go_wp2_with (go_at_call 100; refine (abs_nat _ _ hJ).mono ?_; rintro e w' ⟨rfl, rfl⟩)
      go_loop [0, 4] (fun nn kk => ∃ (n k : Int) (f : Nat), nn = .int .i64 n ∧ kk = .int .i64 k ∧ n ≠ 0 ∧ 1 ≤ k ∧ Hid (n * (k * k) = m) ∧ Hid (sqIn p f n k = R) ∧ n.natAbs ≤ f) (fun nn _ => (intOf nn).natAbs)
      case atStart => exact ⟨n, k, n.natAbs, rfl, rfl, hn0, hk1, hnk.out, HR.out.symm, Nat.le_refl _⟩
      case round =>
        obtain ⟨n', k', g, rfl, rfl, hn0', hk1', hnk', hin, hg⟩ := hrel
        obtain ⟨⟨hb1', hb2'⟩, hk2'⟩ := sq_bd hnk'.out hn0' HM.out hk1'
        obtain ⟨g', rfl⟩ : ∃ g', g = g' + 1 := ⟨g - 1, by omega⟩
        have hpk := Int.mul_le_mul hk2' (show (p : Int) ≤ 1000 by omega) (by omega) (by omega)
        have hpk0 := Int.mul_le_mul hk1' (show (1 : Int) ≤ p by omega) (by omega) (by omega)
        by_cases hd : n'.tmod ((p : Int) * p) = 0
        · obtain ⟨q1, q2, q3⟩ := sq_div (show (2 : Int) ≤ p by omega) hn0' hd
          have hin' : Hid (sqIn p g' (n'.tdiv ((p : Int) * p)) (k' * p) = R) := by show _ = _; rw [← hin.out, sqIn, if_pos hd]
          have hnk2 : Hid (n'.tdiv ((p : Int) * p) * ((k' * p) * (k' * p)) = m) := by show _ = _; rw [q3, hnk'.out]
          have hz : (n'.tmod ((p : Int) * p) == 0) = true := by simp [hd]
          have HD := Lib.hid hd
          clear hd q3
          go_wp2
          go_round
          case rel =>
            go_light
            exact ⟨n'.tdiv ((p : Int) * p), k' * p, g', rfl, rfl, q1, by omega, hnk2.out, hin'.out, by omega⟩
          case measure => exact q2
        · have hin' : Hid (R = (n', k')) := by show _ = _; rw [← hin.out, sqIn, if_neg hd]
          have hz : (n'.tmod ((p : Int) * p) == 0) = false := by simp [hd]
          go_wp2
          go_round
          case rel =>
            go_light
            exact ⟨n', k', p + 1, f', rfl, rfl, by go_num, by omega, by omega, hn0', hk1', hnk'.out, by show _ = _; rw [show ((p + 1 : Nat) : Int) = (p : Int) + 1 by omega, ← hin'.out]; exact hstep.out, by omega⟩
          case measure => simp [intOf]; omega
    · have hlt' : (n.natAbs : Int) < (p : Int) * p := Int.not_le.1 hlt
      obtain ⟨f', rfl⟩ : ∃ f', f = f' + 1 := ⟨f - 1, by omega⟩
      have hres : Hid (sqf m = (n, k)) := by show _ = _; rw [← hout.out, sqOut, if_neg hlt]
      clear hlt
      have hWr : wrap64 ((p : Int) * p) = (p : Int) * p := by unfold wrap64; omega
      have hdec : decide ((p : Int) * p ≤ (n.natAbs : Int)) = false := by simp; omega
      clear hpb2
      go_wp2_with (go_at_call 100; refine (abs_nat _ _ hJ).mono ?_; rintro e w' ⟨rfl, rfl⟩)
      go_ret2
      rw [hres.out]
      exact ⟨rfl, rfl, hk1, hk2, ⟨hb1, hb2⟩, hn0, hnk.out⟩
set_option maxRecDepth 100000 in
set_option maxHeartbeats 4000000 in
theorem nuFree_any (m : Int) (w : World) (hm0 : m ≠ 0) (hm : Bd 1000000 m) : Calls Try.prog 114 #[.int .i64 m] w fun en w' => en = .returned (.tuple #[.int .i64 ((sqf m).1), .int .i64 ((sqf m).2)]) ∧ w = w' ∧ 1 ≤ (sqf m).2 ∧ (sqf m).2 ≤ 1000 ∧ Bd 1000000 (sqf m).1 ∧ (sqf m).1 ≠ 0 ∧ (sqf m).1 * ((sqf m).2 * (sqf m).2) = m := by
  have HM := Lib.hid hm
  clear hm
  go_enter Try.func114, Try.ntmps114
  go_wp2
  go_loop [0, 4, 5] (fun nn kk pp => ∃ (n k : Int) (p f : Nat), nn = .int .i64 n ∧ kk = .int .i64 k ∧ pp = .int .i64 (p : Int) ∧ 2 ≤ p ∧ p ≤ 1001 ∧ n ≠ 0 ∧ 1 ≤ k ∧ Hid (n * (k * k) = m) ∧ Hid (sqOut f p (n, k) = sqf m) ∧ 1002 ≤ f + p) (fun _ _ pp => (1001 - intOf pp).toNat)
  case atStart => exact ⟨m, 1, 2, 1000, rfl, rfl, rfl, by omega, by omega, hm0, by omega, by show _ = _; omega, rfl, by omega⟩
  case round =>
    obtain ⟨n, k, p, f, rfl, rfl, rfl, hp1, hp2, hn0, hk1, hnk, hout, hfp⟩ := hrel
    obtain ⟨⟨hb1, hb2⟩, hk2⟩ := sq_bd hnk.out hn0 HM.out hk1
    have hJ : J64 n := ⟨by omega, by omega⟩
    have hpb := sq_le_sq (show (0 : Int) ≤ (p : Int) by omega) (show (p : Int) ≤ 1001 by omega)
    have hpb2 : (p : Int) * p ≤ 1002001 := by omega
    have hpb0 := self_le_sq p
    clear hpb
    by_cases hlt : (p : Int) * p ≤ (n.natAbs : Int)
    · have hp3 : p ≤ 1000 := by
        rcases Nat.lt_or_ge 1000 p with h | h
        · have := sq_le_sq (show (0 : Int) ≤ 1001 by omega) (show (1001 : Int) ≤ (p : Int) by omega)
          omega
        · exact h
      clear hpb2
      obtain ⟨f', rfl⟩ : ∃ f', f = f' + 1 := ⟨f - 1, by omega⟩
      have hstep : Hid (sqOut f' ((p : Int) + 1) (sqIn p n.natAbs n k) = sqf m) := by
        show _ = _
        rw [← hout.out, sqOut, if_pos hlt]
      obtain ⟨R, hR⟩ : ∃ R, R = sqIn p n.natAbs n k := ⟨_, rfl⟩
      rw [← hR] at hstep
      have HR := Lib.hid hR
      clear hR hout
      go_wp2_with (go_at_call 115; refine (l1Abs_any _ _ hJ).mono ?_; rintro e w' ⟨rfl, rfl⟩)
      go_loop [0, 4] (fun nn kk => ∃ (n k : Int) (f : Nat), nn = .int .i64 n ∧ kk = .int .i64 k ∧ n ≠ 0 ∧ 1 ≤ k ∧ Hid (n * (k * k) = m) ∧ Hid (sqIn p f n k = R) ∧ n.natAbs ≤ f) (fun nn _ => (intOf nn).natAbs)
      case atStart => exact ⟨n, k, n.natAbs, rfl, rfl, hn0, hk1, hnk.out, HR.out.symm, Nat.le_refl _⟩
      case round =>
        obtain ⟨n', k', g, rfl, rfl, hn0', hk1', hnk', hin, hg⟩ := hrel
        obtain ⟨⟨hb1', hb2'⟩, hk2'⟩ := sq_bd hnk'.out hn0' HM.out hk1'
        obtain ⟨g', rfl⟩ : ∃ g', g = g' + 1 := ⟨g - 1, by omega⟩
        have hpk := Int.mul_le_mul hk2' (show (p : Int) ≤ 1000 by omega) (by omega) (by omega)
        have hpk0 := Int.mul_le_mul hk1' (show (1 : Int) ≤ p by omega) (by omega) (by omega)
        by_cases hd : n'.tmod ((p : Int) * p) = 0
        · obtain ⟨q1, q2, q3⟩ := sq_div (show (2 : Int) ≤ p by omega) hn0' hd
          have hin' : Hid (sqIn p g' (n'.tdiv ((p : Int) * p)) (k' * p) = R) := by show _ = _; rw [← hin.out, sqIn, if_pos hd]
          have hnk2 : Hid (n'.tdiv ((p : Int) * p) * ((k' * p) * (k' * p)) = m) := by show _ = _; rw [q3, hnk'.out]
          have hz : (n'.tmod ((p : Int) * p) == 0) = true := by simp [hd]
          have HD := Lib.hid hd
          clear hd q3
          go_wp2
          go_round
          case rel =>
            go_light
            exact ⟨n'.tdiv ((p : Int) * p), k' * p, g', rfl, rfl, q1, by omega, hnk2.out, hin'.out, by omega⟩
          case measure => exact q2
        · have hin' : Hid (R = (n', k')) := by show _ = _; rw [← hin.out, sqIn, if_neg hd]
          have hz : (n'.tmod ((p : Int) * p) == 0) = false := by simp [hd]
          go_wp2
          go_round
          case rel =>
            go_light
            exact ⟨n', k', p + 1, f', rfl, rfl, by go_num, by omega, by omega, hn0', hk1', hnk'.out, by show _ = _; rw [show ((p + 1 : Nat) : Int) = (p : Int) + 1 by omega, ← hin'.out]; exact hstep.out, by omega⟩
          case measure => simp [intOf]; omega
    · have hlt' : (n.natAbs : Int) < (p : Int) * p := Int.not_le.1 hlt
      obtain ⟨f', rfl⟩ : ∃ f', f = f' + 1 := ⟨f - 1, by omega⟩
      have hres : Hid (sqf m = (n, k)) := by show _ = _; rw [← hout.out, sqOut, if_neg hlt]
      clear hlt
      have hWr : wrap64 ((p : Int) * p) = (p : Int) * p := by unfold wrap64; omega
      have hdec : decide ((p : Int) * p ≤ (n.natAbs : Int)) = false := by simp; omega
      clear hpb2
      go_wp2_with (go_at_call 115; refine (l1Abs_any _ _ hJ).mono ?_; rintro e w' ⟨rfl, rfl⟩)
      go_ret2
      rw [hres.out]
      exact ⟨rfl, rfl, hk1, hk2, ⟨hb1, hb2⟩, hn0, hnk.out⟩
theorem fundamental_any (d : Int) (w : World) (h0 : d ≠ 0) (hd : Bd 1000000 d) : Calls Try.prog 73 #[.int .i64 d] w fun en w' => en = .returned (.tuple #[.int .i64 (fdE d), .int .i64 (fdK d)]) ∧ w = w' ∧ 0 ≤ fdK d ∧ fdK d ≤ 1000 ∧ Bd 4000000 (fdE d) := by
  have hc : Hid (∀ w0, _) := Lib.hid fun w0 => squareFree_any d w0 h0 hd
  by_cases h1 : (sqf d).1 % 4 = 1
  · have e1 : Hid (fdE d = (sqf d).1) := by show _ = _; rw [fdE, if_pos h1]
    have e2 : Hid (fdK d = (sqf d).2) := by show _ = _; rw [fdK, if_pos h1]
    rw [e1.out, e2.out]
    generalize (sqf d).1 = s at *
    generalize (sqf d).2 = k at *
    go_enter Try.func73, Try.ntmps73
    go_wp2_with fail
    refine (hc.out _).mono ?_
    rintro e w1 ⟨rfl, rfl, k1, k2, ⟨s1, s2⟩, _, _⟩
    have hz : (s % 4 == 1) = true := by simp [h1]
    have hz' : (s % 4 != 1) = false := by simp [h1]
    go_wp2_with (go_at_call 78; refine (mod_any _ _ _ ⟨by omega, by omega⟩ (by omega) (by omega)).mono ?_; rintro e w' ⟨rfl, rfl⟩)
    go_ret2
    exact ⟨rfl, rfl, by omega, by omega, ⟨by omega, by omega⟩⟩
  · have e1 : Hid (fdE d = 4 * (sqf d).1) := by show _ = _; rw [fdE, if_neg h1]
    have e2 : Hid (fdK d = (sqf d).2 / 2) := by show _ = _; rw [fdK, if_neg h1]
    rw [e1.out, e2.out]
    generalize (sqf d).1 = s at *
    generalize (sqf d).2 = k at *
    go_enter Try.func73, Try.ntmps73
    go_wp2_with fail
    refine (hc.out _).mono ?_
    rintro e w1 ⟨rfl, rfl, k1, k2, ⟨s1, s2⟩, _, _⟩
    have hz : (s % 4 == 1) = false := by simp [h1]
    have hz' : (s % 4 != 1) = true := by simp [h1]
    go_wp2_with (go_at_call 78; refine (mod_any _ _ _ ⟨by omega, by omega⟩ (by omega) (by omega)).mono ?_; rintro e w' ⟨rfl, rfl⟩)
    go_ret2
    exact ⟨rfl, rfl, by omega, by omega, ⟨by omega, by omega⟩⟩
theorem diSplit_any (d : Int) (w : World) (h0 : d ≠ 0) (hd : Bd 1000000 d) : Calls Try.prog 98 #[.int .i64 d] w fun en w' => en = .returned (.tuple #[.int .i64 (fdE d), .int .i64 (fdK d)]) ∧ w = w' ∧ 0 ≤ fdK d ∧ fdK d ≤ 1000 ∧ Bd 4000000 (fdE d) := by
  have hc : Hid (∀ w0, _) := Lib.hid fun w0 => nuFree_any d w0 h0 hd
  by_cases h1 : (sqf d).1 % 4 = 1
  · have e1 : Hid (fdE d = (sqf d).1) := by show _ = _; rw [fdE, if_pos h1]
    have e2 : Hid (fdK d = (sqf d).2) := by show _ = _; rw [fdK, if_pos h1]
    rw [e1.out, e2.out]
    generalize (sqf d).1 = s at *
    generalize (sqf d).2 = k at *
    go_enter Try.func98, Try.ntmps98
    go_wp2_with fail
    refine (hc.out _).mono ?_
    rintro e w1 ⟨rfl, rfl, k1, k2, ⟨s1, s2⟩, _, _⟩
    have hz : (s % 4 == 1) = true := by simp [h1]
    have hz' : (s % 4 != 1) = false := by simp [h1]
    go_wp2_with (go_at_call 44; refine (nuMod_any _ _ _ ⟨by omega, by omega⟩ (by omega) (by omega)).mono ?_; rintro e w' ⟨rfl, rfl⟩)
    go_ret2
    exact ⟨rfl, rfl, by omega, by omega, ⟨by omega, by omega⟩⟩
  · have e1 : Hid (fdE d = 4 * (sqf d).1) := by show _ = _; rw [fdE, if_neg h1]
    have e2 : Hid (fdK d = (sqf d).2 / 2) := by show _ = _; rw [fdK, if_neg h1]
    rw [e1.out, e2.out]
    generalize (sqf d).1 = s at *
    generalize (sqf d).2 = k at *
    go_enter Try.func98, Try.ntmps98
    go_wp2_with fail
    refine (hc.out _).mono ?_
    rintro e w1 ⟨rfl, rfl, k1, k2, ⟨s1, s2⟩, _, _⟩
    have hz : (s % 4 == 1) = false := by simp [h1]
    have hz' : (s % 4 != 1) = true := by simp [h1]
    go_wp2_with (go_at_call 44; refine (nuMod_any _ _ _ ⟨by omega, by omega⟩ (by omega) (by omega)).mono ?_; rintro e w' ⟨rfl, rfl⟩)
    go_ret2
    exact ⟨rfl, rfl, by omega, by omega, ⟨by omega, by omega⟩⟩
end Go.Proofs.Ytladcjoiaoaedaa
