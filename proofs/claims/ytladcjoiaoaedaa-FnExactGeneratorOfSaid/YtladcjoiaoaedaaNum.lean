/-
  The contracts of the functions of chapter 1 (integers): what each call returns, for arguments that fit in 64 bits.
-/
import Derived.Test.YtladcjoiaoaedaaTail
namespace Go.Proofs.Ytladcjoiaoaedaa
open Go.RowKit
attribute [local simp, local go_sem] past_cell past_frozen past_tape

theorem abs_any (n : Int) (w : World) (h : I64 n) :
    Calls Try.prog 100 #[.int .i64 n] w fun e w' => e = .returned (.int .i64 (absI n)) ∧ w = w' := by
  obtain ⟨h1, h2⟩ := h
  by_cases hm : n < -9223372036854775807
  all_goals
    go_enter Try.func100, Try.ntmps100
    go_wp2
  all_goals
    go_ret
    refine ⟨ret_int ?_, rfl⟩
    unfold absI
    repeat' split
    all_goals omega
theorem abs_nat (n : Int) (w : World) (h : J64 n) :
    Calls Try.prog 100 #[.int .i64 n] w fun e w' => e = .returned (.int .i64 n.natAbs) ∧ w = w' :=
  (abs_any n w h.i).mono fun _ _ ⟨he, hw⟩ => ⟨by rw [he, absI_of h], hw⟩
theorem gcd_step (a b : Int) : Int.gcd b (a.tmod b) = Int.gcd a b := by
  rw [Int.gcd_comm a b]
  unfold Int.gcd
  rw [Int.natAbs_tmod]
  rw [Nat.gcd_comm, Nat.gcd_comm b.natAbs a.natAbs, Nat.gcd_comm a.natAbs b.natAbs]
  exact (Nat.gcd_rec b.natAbs a.natAbs).symm
theorem tmod_J (a : Int) {b : Int} (hb : J64 b) (h : b ≠ 0) : J64 (a.tmod b) ∧ (a.tmod b).natAbs < b.natAbs := by
  have h1 : (a.tmod b).natAbs < b.natAbs := by rw [Int.natAbs_tmod]; exact Nat.mod_lt _ (by omega)
  obtain ⟨b1, b2⟩ := hb
  exact ⟨⟨by omega, by omega⟩, h1⟩
set_option maxHeartbeats 400000 in
theorem gcd_any (a b : Int) (w : World) (ha : J64 a) (hb : J64 b) :
    Calls Try.prog 116 #[.int .i64 a, .int .i64 b] w fun e w' => e = .returned (.int .i64 (Int.gcd a b)) ∧ ∃ n, w' = w.drewN n := by
  go_enter Try.func116, Try.ntmps116
  go_wp2
  go_loopw [0, 1] (fun x y wr => ∃ p q : Int, ∃ n : Nat, J64 p ∧ J64 q ∧ Int.gcd p q = Int.gcd a b ∧ x = .int .i64 p ∧ y = .int .i64 q ∧ wr = w.drewN n) (fun _ y _ => (intOf y).natAbs)
  case atStart => exact ⟨a, b, 0, ha, hb, rfl, rfl, rfl, rfl⟩
  case round =>
    obtain ⟨p, q, n, hp, hq, hg, rfl, rfl, rfl⟩ := hrel
    have HG := Lib.hid hg
    clear hg
    by_cases h0 : q = 0
    · subst h0
      go_wp2_with (go_at_call 100; refine (abs_nat _ _ hp).mono ?_; rintro e w' ⟨rfl, rfl⟩)
      go_ret
      exact ⟨ret_int (by rw [← HG.out, Int.gcd_zero_right]), n, rfl⟩
    · have hlt := tmod_J p hq h0
      have hst := Lib.hid (gcd_step p q)
      have hm1 := hlt.1.1
      have hm2 := hlt.1.2
      go_wp2
      go_region
      go_wp2
      go_roundw
      case rel => exact ⟨_, _, n + 1, hq, hlt.1, by rw [hst.out, HG.out], rfl, rfl, rfl⟩
      case measure => exact hlt.2
def modI (a m : Int) : Int := a % m
theorem mod_any (a m : Int) (w : World) (ha : I64 a) (h1 : 1 ≤ m) (h2 : m ≤ 9223372036854775807) :
    Calls Try.prog 78 #[.int .i64 a, .int .i64 m] w fun e w' => e = .returned (.int .i64 (a % m)) ∧ w = w' := by
  obtain ⟨a1, a2⟩ := ha
  have k1 := Int.emod_lt_of_pos a (show 0 < m by omega)
  have k2 := Int.emod_nonneg a (show m ≠ 0 by omega)
  have k3 : a.tmod m = if 0 ≤ a ∨ a % m = 0 then a % m else a % m - m := by
    rw [Int.tmod_eq_emod]; split <;> split <;> first | rfl | (rename_i p q; simp_all [Int.dvd_iff_emod_eq_zero]; done) | (rename_i p q; simp_all [Int.dvd_iff_emod_eq_zero]; omega)
  by_cases c : 0 ≤ a ∨ a % m = 0
  · rw [if_pos c] at k3
    go_enter Try.func78, Try.ntmps78
    go_wp2
    go_ret
    exact ⟨rfl, rfl⟩
  · rw [if_neg c] at k3
    go_enter Try.func78, Try.ntmps78
    go_wp2
    go_ret
    exact ⟨ret_int (by omega), rfl⟩
theorem l1Most_any (a b : Int) (w : World) :
    Calls Try.prog 132 #[.int .i64 a, .int .i64 b] w fun e w' => e = .returned (.int .i64 (max a b)) ∧ w = w' := by
  go_enter Try.func132, Try.ntmps132
  go_wp2
  all_goals
    go_ret
    exact ⟨ret_int (by omega), rfl⟩
theorem l1Abs_any (a : Int) (w : World) (ha : J64 a) :
    Calls Try.prog 115 #[.int .i64 a] w fun e w' => e = .returned (.int .i64 a.natAbs) ∧ w = w' := by
  obtain ⟨a1, a2⟩ := ha
  go_enter Try.func115, Try.ntmps115
  go_wp2_with (go_at_call 132; refine (l1Most_any _ _ _).mono ?_; rintro e w' ⟨rfl, rfl⟩)
  go_ret
  exact ⟨ret_int (by omega), rfl⟩
set_option maxHeartbeats 400000 in
theorem nuGcd_any (a b : Int) (w : World) (ha : J64 a) (hb : J64 b) :
    Calls Try.prog 103 #[.int .i64 a, .int .i64 b] w fun e w' => e = .returned (.int .i64 (Int.gcd a b)) ∧ ∃ n, w' = w.drewN n := by
  have ja : J64 (a.natAbs : Int) := ⟨by omega, by have := ha.1; have := ha.2; omega⟩
  have jb : J64 (b.natAbs : Int) := ⟨by omega, by have := hb.1; have := hb.2; omega⟩
  go_enter Try.func103, Try.ntmps103
  go_wp2_with (go_at_call 115; refine (l1Abs_any _ _ (by assumption)).mono ?_; rintro e w' ⟨rfl, rfl⟩)
  go_loopw [0, 1] (fun x y wr => ∃ p q : Int, ∃ n : Nat, J64 p ∧ J64 q ∧ 0 ≤ p ∧ 0 ≤ q ∧ Int.gcd p q = Int.gcd a b ∧ x = .int .i64 p ∧ y = .int .i64 q ∧ wr = w.drewN n) (fun _ y _ => (intOf y).natAbs)
  case atStart => exact ⟨a.natAbs, b.natAbs, 0, ja, jb, by omega, by omega, by simp [Int.gcd], rfl, rfl, rfl⟩
  case round =>
    obtain ⟨p, q, n, hp, hq, p0, q0, hg, rfl, rfl, rfl⟩ := hrel
    have HG := Lib.hid hg
    clear hg
    by_cases h0 : q = 0
    · subst h0
      go_wp2
      go_ret
      exact ⟨ret_int (by rw [← HG.out, Int.gcd_zero_right]; omega), n, rfl⟩
    · have hlt := tmod_J p hq h0
      have hst := gcd_step p q
      have hm3 := Int.tmod_nonneg q p0
      rw [Int.tmod_eq_emod_of_nonneg p0] at hlt hst hm3
      have hst := Lib.hid hst
      have hm1 := hlt.1.1
      have hm2 := hlt.1.2
      go_wp2
      go_region
      go_wp2
      go_roundw
      case rel => exact ⟨_, _, n + 1, hq, hlt.1, q0, hm3, by rw [hst.out, HG.out], rfl, rfl, rfl⟩
      case measure => exact hlt.2
theorem nuMod_any (a m : Int) (w : World) (ha : I64 a) (h1 : 1 ≤ m) (h2 : m ≤ 9223372036854775807) :
    Calls Try.prog 44 #[.int .i64 a, .int .i64 m] w fun e w' => e = .returned (.int .i64 (a % m)) ∧ w = w' := by
  obtain ⟨a1, a2⟩ := ha
  have k1 := Int.emod_lt_of_pos a (show 0 < m by omega)
  have k2 := Int.emod_nonneg a (show m ≠ 0 by omega)
  have k3 : a.tmod m = if 0 ≤ a ∨ a % m = 0 then a % m else a % m - m := by
    rw [Int.tmod_eq_emod]; split <;> split <;> first | rfl | (rename_i p q; simp_all [Int.dvd_iff_emod_eq_zero]; done) | (rename_i p q; simp_all [Int.dvd_iff_emod_eq_zero]; omega)
  by_cases c : 0 ≤ a ∨ a % m = 0
  · rw [if_pos c] at k3
    go_enter Try.func44, Try.ntmps44
    go_wp2
    go_ret
    exact ⟨rfl, rfl⟩
  · rw [if_neg c] at k3
    go_enter Try.func44, Try.ntmps44
    go_wp2
    go_ret
    exact ⟨ret_int (by omega), rfl⟩
def inB (n lo hi : Int) : Bool := decide (lo ≤ n ∧ n ≤ hi)
theorem l1In_any (n lo hi : Int) (w : World) :
    Calls Try.prog 36 #[.int .i64 n, .int .i64 lo, .int .i64 hi] w fun e w' => e = .returned (.bool (inB n lo hi)) ∧ w = w' := by
  go_enter Try.func36, Try.ntmps36
  go_wp2
  all_goals
    go_ret
    refine ⟨ret_bool ?_, rfl⟩
    (try unfold inB)
    (first | (symm; apply decide_eq_true; omega) | (symm; apply decide_eq_false; omega) | (rw [decide_eq_decide]; omega))
/-- A number in the sense of the program. -/
def numB (n : Int) : Bool := decide (-1000000 ≤ n ∧ n ≤ 1000000)
theorem numB_bd {n : Int} (h : numB n = true) : Bd 1000000 n := by
  unfold numB at h
  have h := of_decide_eq_true h
  exact ⟨h.1, h.2⟩
end Go.Proofs.Ytladcjoiaoaedaa
