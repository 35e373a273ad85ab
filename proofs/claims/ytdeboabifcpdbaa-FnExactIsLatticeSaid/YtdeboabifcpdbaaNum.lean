/-
  The contracts of the functions of chapter 1 (integers): what each call returns, for arguments that fit in 64 bits.
-/
import Derived.Test.YtdeboabifcpdbaaRows
import Derived.WalkKit
import Derived.WalkSpells
import Derived.WalkLawsBesides
import Derived.Lib.Hide
import Derived.Outline
import Derived.Below
import Derived.BigQuiet
import Derived.Deep.QuietTactic
namespace Go.Proofs.Ytdeboabifcpdbaa
open Go.RowKit

def I64 (n : Int) : Prop := -9223372036854775808 ≤ n ∧ n ≤ 9223372036854775807
/-- A number that is not the least of 64 bits. -/
def J64 (n : Int) : Prop := -9223372036854775807 ≤ n ∧ n ≤ 9223372036854775807
def absI (n : Int) : Int := if n < -9223372036854775807 then 9223372036854775807 else if n < 0 then -n else n
theorem J64.i {n : Int} (h : J64 n) : I64 n := ⟨by have := h.1; omega, h.2⟩
theorem absI_of {n : Int} (h : J64 n) : absI n = n.natAbs := by
  obtain ⟨h1, h2⟩ := h
  unfold absI; rw [if_neg (by omega)]; split <;> omega
theorem ret_int {k : IntKind} {a b : Int} (h : a = b) : Ending.returned (.int k a) = .returned (.int k b) := by rw [h]
theorem ret_bool {a b : Bool} (h : a = b) : Ending.returned (.bool a) = .returned (.bool b) := by rw [h]
theorem abs_any (n : Int) (w : World) (h : I64 n) :
    Calls Try.prog 84 #[.int .i64 n] w fun e w' => e = .returned (.int .i64 (absI n)) ∧ w = w' := by
  obtain ⟨h1, h2⟩ := h
  by_cases hm : n < -9223372036854775807
  all_goals
    go_enter Try.func84, Try.ntmps84
    go_wp2
  all_goals
    go_ret
    refine ⟨ret_int ?_, rfl⟩
    unfold absI
    repeat' split
    all_goals omega
theorem abs_nat (n : Int) (w : World) (h : J64 n) :
    Calls Try.prog 84 #[.int .i64 n] w fun e w' => e = .returned (.int .i64 n.natAbs) ∧ w = w' :=
  (abs_any n w h.i).mono fun _ _ ⟨he, hw⟩ => ⟨by rw [he, absI_of h], hw⟩
theorem gcd_step (a b : Int) : Int.gcd b (a.tmod b) = Int.gcd a b := by
  rw [Int.gcd_comm a b]
  unfold Int.gcd
  rw [Int.natAbs_tmod]
  rw [Nat.gcd_comm, Nat.gcd_comm b.natAbs a.natAbs, Nat.gcd_comm a.natAbs b.natAbs]
  exact (Nat.gcd_rec b.natAbs a.natAbs).symm
theorem tmod_J (a : Int) {b : Int} (hb : J64 b) (h : b ≠ 0) : J64 (a.tmod b) ∧ (a.tmod b).natAbs < b.natAbs := by
  have h1 : (a.tmod b).natAbs < b.natAbs := by rw [Int.natAbs_tmod]; exact Nat.mod_lt _ (by omega)
  obtain ⟨b1, b2⟩ := hb
  exact ⟨⟨by omega, by omega⟩, h1⟩
set_option maxHeartbeats 400000 in
theorem gcd_any (a b : Int) (w : World) (ha : J64 a) (hb : J64 b) :
    Calls Try.prog 61 #[.int .i64 a, .int .i64 b] w fun e w' => e = .returned (.int .i64 (Int.gcd a b)) ∧ ∃ n, w' = w.drewN n := by
  go_enter Try.func61, Try.ntmps61
  go_wp2
  go_loopw [0, 1] (fun x y wr => ∃ p q : Int, ∃ n : Nat, J64 p ∧ J64 q ∧ Int.gcd p q = Int.gcd a b ∧ x = .int .i64 p ∧ y = .int .i64 q ∧ wr = w.drewN n) (fun _ y _ => (intOf y).natAbs)
  case atStart => exact ⟨a, b, 0, ha, hb, rfl, rfl, rfl, rfl⟩
  case round =>
    obtain ⟨p, q, n, hp, hq, hg, rfl, rfl, rfl⟩ := hrel
    have HG := Lib.hid hg
    clear hg
    by_cases h0 : q = 0
    · subst h0
      go_wp2_with (go_at_call 84; refine (abs_nat _ _ hp).mono ?_; rintro e w' ⟨rfl, rfl⟩)
      go_ret
      exact ⟨ret_int (by rw [← HG.out, Int.gcd_zero_right]), n, rfl⟩
    · have hlt := tmod_J p hq h0
      have hst := Lib.hid (gcd_step p q)
      have hm1 := hlt.1.1
      have hm2 := hlt.1.2
      go_wp2
      go_region
      go_wp2
      go_roundw
      case rel => exact ⟨_, _, n + 1, hq, hlt.1, by rw [hst.out, HG.out], rfl, rfl, rfl⟩
      case measure => exact hlt.2
def modI (a m : Int) : Int := a % m
theorem mod_any (a m : Int) (w : World) (ha : I64 a) (h1 : 1 ≤ m) (h2 : m ≤ 9223372036854775807) :
    Calls Try.prog 63 #[.int .i64 a, .int .i64 m] w fun e w' => e = .returned (.int .i64 (a % m)) ∧ w = w' := by
  obtain ⟨a1, a2⟩ := ha
  have k1 := Int.emod_lt_of_pos a (show 0 < m by omega)
  have k2 := Int.emod_nonneg a (show m ≠ 0 by omega)
  have k3 : a.tmod m = if 0 ≤ a ∨ a % m = 0 then a % m else a % m - m := by
    rw [Int.tmod_eq_emod]; split <;> split <;> first | rfl | (rename_i p q; simp_all [Int.dvd_iff_emod_eq_zero]; done) | (rename_i p q; simp_all [Int.dvd_iff_emod_eq_zero]; omega)
  by_cases c : 0 ≤ a ∨ a % m = 0
  · rw [if_pos c] at k3
    go_enter Try.func63, Try.ntmps63
    go_wp2
    go_ret
    exact ⟨rfl, rfl⟩
  · rw [if_neg c] at k3
    go_enter Try.func63, Try.ntmps63
    go_wp2
    go_ret
    exact ⟨ret_int (by omega), rfl⟩
end Go.Proofs.Ytdeboabifcpdbaa
