/-
  The contracts of the functions of chapter 1 (integers): what each call returns, for arguments that fit in 64 bits.
-/
import Derived.Test.YtemnkfigjpphgaaTail
namespace Go.Proofs.Ytemnkfigjpphgaa
open Go.RowKit
attribute [local simp, local go_sem] past_cell past_frozen past_tape

theorem abs_any (n : Int) (w : World) (h : I64 n) :
    Calls Try.prog 51 #[.int .i64 n] w fun e w' => e = .returned (.int .i64 (absI n)) ∧ w = w' := by
  obtain ⟨h1, h2⟩ := h
  by_cases hm : n < -9223372036854775807
  all_goals
    go_enter Try.func51, Try.ntmps51
    go_wp2
  all_goals
    go_ret
    refine ⟨ret_int ?_, rfl⟩
    unfold absI
    repeat' split
    all_goals omega
theorem abs_nat (n : Int) (w : World) (h : J64 n) :
    Calls Try.prog 51 #[.int .i64 n] w fun e w' => e = .returned (.int .i64 n.natAbs) ∧ w = w' :=
  (abs_any n w h.i).mono fun _ _ ⟨he, hw⟩ => ⟨by rw [he, absI_of h], hw⟩
theorem gcd_step (a b : Int) : Int.gcd b (a.tmod b) = Int.gcd a b := by
  rw [Int.gcd_comm a b]
  unfold Int.gcd
  rw [Int.natAbs_tmod]
  rw [Nat.gcd_comm, Nat.gcd_comm b.natAbs a.natAbs, Nat.gcd_comm a.natAbs b.natAbs]
  exact (Nat.gcd_rec b.natAbs a.natAbs).symm
theorem tmod_J (a : Int) {b : Int} (hb : J64 b) (h : b ≠ 0) : J64 (a.tmod b) ∧ (a.tmod b).natAbs < b.natAbs := by
  have h1 : (a.tmod b).natAbs < b.natAbs := by rw [Int.natAbs_tmod]; exact Nat.mod_lt _ (by omega)
  obtain ⟨b1, b2⟩ := hb
  exact ⟨⟨by omega, by omega⟩, h1⟩
set_option maxHeartbeats 400000 in
theorem gcd_any (a b : Int) (w : World) (ha : J64 a) (hb : J64 b) :
    Calls Try.prog 122 #[.int .i64 a, .int .i64 b] w fun e w' => e = .returned (.int .i64 (Int.gcd a b)) ∧ ∃ n, w' = w.drewN n := by
  go_enter Try.func122, Try.ntmps122
  go_wp2
  go_loopw [0, 1] (fun x y wr => ∃ p q : Int, ∃ n : Nat, J64 p ∧ J64 q ∧ Int.gcd p q = Int.gcd a b ∧ x = .int .i64 p ∧ y = .int .i64 q ∧ wr = w.drewN n) (fun _ y _ => (intOf y).natAbs)
  case atStart => exact ⟨a, b, 0, ha, hb, rfl, rfl, rfl, rfl⟩
  case round =>
    obtain ⟨p, q, n, hp, hq, hg, rfl, rfl, rfl⟩ := hrel
    have HG := Lib.hid hg
    clear hg
    by_cases h0 : q = 0
    · subst h0
      go_wp2_with (go_at_call 51; refine (abs_nat _ _ hp).mono ?_; rintro e w' ⟨rfl, rfl⟩)
      go_ret
      exact ⟨ret_int (by rw [← HG.out, Int.gcd_zero_right]), n, rfl⟩
    · have hlt := tmod_J p hq h0
      have hst := Lib.hid (gcd_step p q)
      have hm1 := hlt.1.1
      have hm2 := hlt.1.2
      go_wp2
      go_region
      go_wp2
      go_roundw
      case rel => exact ⟨_, _, n + 1, hq, hlt.1, by rw [hst.out, HG.out], rfl, rfl, rfl⟩
      case measure => exact hlt.2
def modI (a m : Int) : Int := a % m
theorem mod_any (a m : Int) (w : World) (ha : I64 a) (h1 : 1 ≤ m) (h2 : m ≤ 9223372036854775807) :
    Calls Try.prog 101 #[.int .i64 a, .int .i64 m] w fun e w' => e = .returned (.int .i64 (a % m)) ∧ w = w' := by
  obtain ⟨a1, a2⟩ := ha
  have k1 := Int.emod_lt_of_pos a (show 0 < m by omega)
  have k2 := Int.emod_nonneg a (show m ≠ 0 by omega)
  have k3 : a.tmod m = if 0 ≤ a ∨ a % m = 0 then a % m else a % m - m := by
    rw [Int.tmod_eq_emod]; split <;> split <;> first | rfl | (rename_i p q; simp_all [Int.dvd_iff_emod_eq_zero]; done) | (rename_i p q; simp_all [Int.dvd_iff_emod_eq_zero]; omega)
  by_cases c : 0 ≤ a ∨ a % m = 0
  · rw [if_pos c] at k3
    go_enter Try.func101, Try.ntmps101
    go_wp2
    go_ret
    exact ⟨rfl, rfl⟩
  · rw [if_neg c] at k3
    go_enter Try.func101, Try.ntmps101
    go_wp2
    go_ret
    exact ⟨ret_int (by omega), rfl⟩
theorem l1Most_any (a b : Int) (w : World) :
    Calls Try.prog 126 #[.int .i64 a, .int .i64 b] w fun e w' => e = .returned (.int .i64 (max a b)) ∧ w = w' := by
  go_enter Try.func126, Try.ntmps126
  go_wp2
  all_goals
    go_ret
    exact ⟨ret_int (by omega), rfl⟩
theorem l1Abs_any (a : Int) (w : World) (ha : J64 a) :
    Calls Try.prog 107 #[.int .i64 a] w fun e w' => e = .returned (.int .i64 a.natAbs) ∧ w = w' := by
  obtain ⟨a1, a2⟩ := ha
  go_enter Try.func107, Try.ntmps107
  go_wp2_with (go_at_call 126; refine (l1Most_any _ _ _).mono ?_; rintro e w' ⟨rfl, rfl⟩)
  go_ret
  exact ⟨ret_int (by omega), rfl⟩
set_option maxHeartbeats 400000 in
theorem nuGcd_any (a b : Int) (w : World) (ha : J64 a) (hb : J64 b) :
    Calls Try.prog 129 #[.int .i64 a, .int .i64 b] w fun e w' => e = .returned (.int .i64 (Int.gcd a b)) ∧ ∃ n, w' = w.drewN n := by
  have ja : J64 (a.natAbs : Int) := ⟨by omega, by have := ha.1; have := ha.2; omega⟩
  have jb : J64 (b.natAbs : Int) := ⟨by omega, by have := hb.1; have := hb.2; omega⟩
  go_enter Try.func129, Try.ntmps129
  go_wp2_with (go_at_call 107; refine (l1Abs_any _ _ (by assumption)).mono ?_; rintro e w' ⟨rfl, rfl⟩)
  go_loopw [0, 1] (fun x y wr => ∃ p q : Int, ∃ n : Nat, J64 p ∧ J64 q ∧ 0 ≤ p ∧ 0 ≤ q ∧ Int.gcd p q = Int.gcd a b ∧ x = .int .i64 p ∧ y = .int .i64 q ∧ wr = w.drewN n) (fun _ y _ => (intOf y).natAbs)
  case atStart => exact ⟨a.natAbs, b.natAbs, 0, ja, jb, by omega, by omega, by simp [Int.gcd], rfl, rfl, rfl⟩
  case round =>
    obtain ⟨p, q, n, hp, hq, p0, q0, hg, rfl, rfl, rfl⟩ := hrel
    have HG := Lib.hid hg
    clear hg
    by_cases h0 : q = 0
    · subst h0
      go_wp2
      go_ret
      exact ⟨ret_int (by rw [← HG.out, Int.gcd_zero_right]; omega), n, rfl⟩
    · have hlt := tmod_J p hq h0
      have hst := gcd_step p q
      have hm3 := Int.tmod_nonneg q p0
      rw [Int.tmod_eq_emod_of_nonneg p0] at hlt hst hm3
      have hst := Lib.hid hst
      have hm1 := hlt.1.1
      have hm2 := hlt.1.2
      go_wp2
      go_region
      go_wp2
      go_roundw
      case rel => exact ⟨_, _, n + 1, hq, hlt.1, q0, hm3, by rw [hst.out, HG.out], rfl, rfl, rfl⟩
      case measure => exact hlt.2
theorem nuMod_any (a m : Int) (w : World) (ha : I64 a) (h1 : 1 ≤ m) (h2 : m ≤ 9223372036854775807) :
    Calls Try.prog 102 #[.int .i64 a, .int .i64 m] w fun e w' => e = .returned (.int .i64 (a % m)) ∧ w = w' := by
  obtain ⟨a1, a2⟩ := ha
  have k1 := Int.emod_lt_of_pos a (show 0 < m by omega)
  have k2 := Int.emod_nonneg a (show m ≠ 0 by omega)
  have k3 : a.tmod m = if 0 ≤ a ∨ a % m = 0 then a % m else a % m - m := by
    rw [Int.tmod_eq_emod]; split <;> split <;> first | rfl | (rename_i p q; simp_all [Int.dvd_iff_emod_eq_zero]; done) | (rename_i p q; simp_all [Int.dvd_iff_emod_eq_zero]; omega)
  by_cases c : 0 ≤ a ∨ a % m = 0
  · rw [if_pos c] at k3
    go_enter Try.func102, Try.ntmps102
    go_wp2
    go_ret
    exact ⟨rfl, rfl⟩
  · rw [if_neg c] at k3
    go_enter Try.func102, Try.ntmps102
    go_wp2
    go_ret
    exact ⟨ret_int (by omega), rfl⟩
def inB (n lo hi : Int) : Bool := decide (lo ≤ n ∧ n ≤ hi)
theorem l1In_any (n lo hi : Int) (w : World) :
    Calls Try.prog 47 #[.int .i64 n, .int .i64 lo, .int .i64 hi] w fun e w' => e = .returned (.bool (inB n lo hi)) ∧ w = w' := by
  go_enter Try.func47, Try.ntmps47
  go_wp2
  all_goals
    go_ret
    refine ⟨ret_bool ?_, rfl⟩
    (try unfold inB)
    (first | (symm; apply decide_eq_true; omega) | (symm; apply decide_eq_false; omega) | (rw [decide_eq_decide]; omega))
/-- A number in the sense of the program. -/
def numB (n : Int) : Bool := decide (-1000000 ≤ n ∧ n ≤ 1000000)
theorem numB_bd {n : Int} (h : numB n = true) : Bd 1000000 n := by
  unfold numB at h
  have h := of_decide_eq_true h
  exact ⟨h.1, h.2⟩
theorem all_take_succ (l : List Int) (k : Nat) (h : k < l.length) : (l.take (k + 1)).all numB = ((l.take k).all numB && numB (l.getD k 0)) := by
  rw [List.take_succ_eq_append_getElem h, List.all_append]
  simp [List.getD_eq_getElem?_getD, h]
theorem all_false (l : List Int) (k : Nat) (h : k < l.length) (hn : numB (l.getD k 0) = false) : l.all numB = false := by
  rw [List.all_eq_false]
  refine ⟨l[k], List.getElem_mem h, ?_⟩
  have e : l.getD k 0 = l[k] := by simp [List.getD_eq_getElem?_getD, h]
  rw [e] at hn
  simp [hn]
set_option maxHeartbeats 400000 in
theorem areNumbers_any (l : List Int) (g : Nat) (w : World) (hl : l.length ≤ 1000) (hc : ∀ i, i < l.length → w.cell? ⟨g, i, none⟩ = some (.int .i64 (l.getD i 0))) :
    Calls Try.prog 104 #[.slice (some ⟨g, 0, none⟩) l.length l.length] w fun e w' => e = .returned (.bool (l.all numB)) ∧ w = w' := by
  have HC := Lib.hid hc
  clear hc
  go_enter Try.func104, Try.ntmps104
  go_wp2
  go_loop [7] (fun i => ∃ k : Nat, k ≤ l.length ∧ i = .int .i64 k ∧ Hid ((l.take k).all numB = true)) (fun i => l.length - (intOf i).toNat)
  case atStart => exact ⟨0, Nat.zero_le _, rfl, by show _ = _; simp⟩
  case round =>
    obtain ⟨k, hk, rfl, hall⟩ := hrel
    by_cases hlt : k < l.length
    · have hcell := HC.out k hlt
      have HT := Lib.hid (all_take_succ l k hlt)
      have HN := Lib.hid (all_false l k hlt)
      generalize l.getD k 0 = z at *
      go_wp2
      all_goals first
        | (go_round
           case rel =>
             go_light
             refine ⟨k + 1, by omega, by go_num, ?_⟩
             show _ = _
             rw [HT.out, hall.out, Bool.true_and]
             unfold numB
             exact decide_eq_true ⟨by omega, by omega⟩
           case measure => simp [intOf]; omega)
        | (go_ret
           refine ⟨ret_bool ?_, rfl⟩
           go_light
           rw [HN.out (by unfold numB; exact decide_eq_false (by omega))])
    · go_wp2
      go_ret
      refine ⟨ret_bool ?_, rfl⟩
      have := hall.out
      rw [List.take_of_length_le (by omega)] at this
      exact this.symm
end Go.Proofs.Ytemnkfigjpphgaa

/-
  Contracts of the functions on forms and matrices.
-/
namespace Go.Proofs.Ytemnkfigjpphgaa
open Go.RowKit
attribute [local simp, local go_sem] past_cell past_frozen past_tape
def formB (a b c : Int) : Bool := numB a && numB b && numB c
theorem formB_all (a b c : Int) : [a, b, c].all numB = formB a b c := by simp [formB, Bool.and_assoc]
theorem formB_bd {a b c : Int} (h : formB a b c = true) : Bd 1000000 a ∧ Bd 1000000 b ∧ Bd 1000000 c := by
  simp only [formB, Bool.and_eq_true] at h
  exact ⟨numB_bd h.1.1, numB_bd h.1.2, numB_bd h.2⟩
theorem IsForm_any (a b c : Int) (w : World) :
    Calls Try.prog 83 #[.agg #[.int .i64 a, .int .i64 b, .int .i64 c]] w fun e w' => e = .returned (.bool (formB a b c)) ∧ Below w.heap.size w w' := by

  go_enter Try.func83, Try.ntmps83
  go_wp2_with (go_at_call 104; refine (areNumbers_any [a, b, c] _ _ (by simp) ?hc).mono ?_)
  case hc => intro i hi; match i, hi with | 0, _ => simp [go_sem] | 1, _ => simp [go_sem] | 2, _ => simp [go_sem]
  rintro e w' ⟨rfl, rfl⟩
  go_wp2
  go_ret
  refine ⟨ret_bool (by simp [formB, Bool.and_assoc]), ?_⟩
  repeat (first | with_reducible exact Below.refl _ _ | with_reducible assumption | ((with_reducible refine blA ?_ ?_); (focus (first | omega | (simp <;> omega)))) | (with_reducible refine blD ?_) | (with_reducible refine blN ?_) | ((with_reducible refine blS ?_ ?_); (focus (first | omega | (simp <;> omega)))) | ((with_reducible refine blT (by assumption) ?_ ?_); (focus (first | omega | (simp <;> omega)))))
theorem nuGood_any (n : Int) (w : World) :
    Calls Try.prog 108 #[.int .i64 n] w fun e w' => e = .returned (.bool (numB n)) ∧ w = w' := by
  go_enter Try.func108, Try.ntmps108
  go_wp2_with (go_at_call 47; refine (l1In_any _ _ _ _).mono ?_; rintro e w' ⟨rfl, rfl⟩)
  go_ret
  exact ⟨rfl, rfl⟩
theorem foGood_any (a b c : Int) (w : World) :
    Calls Try.prog 112 #[.agg #[.int .i64 a, .int .i64 b, .int .i64 c]] w fun e w' => e = .returned (.bool (formB a b c)) ∧ Below w.heap.size w w' := by
  go_enter Try.func112, Try.ntmps112
  go_wp2_with (go_at_call 108; refine (nuGood_any _ _).mono ?_; rintro e w' ⟨rfl, rfl⟩)
  all_goals
    go_ret
    refine ⟨ret_bool ?_, ?_⟩
    · go_light; simp [formB, *]
    · repeat (first | with_reducible exact Below.refl _ _ | with_reducible assumption | ((with_reducible refine blA ?_ ?_); (focus (first | omega | (simp <;> omega)))) | (with_reducible refine blD ?_) | (with_reducible refine blN ?_) | ((with_reducible refine blS ?_ ?_); (focus (first | omega | (simp <;> omega)))) | ((with_reducible refine blT (by assumption) ?_ ?_); (focus (first | omega | (simp <;> omega)))))
/-- The discriminant, as 64 bits have it. -/
def discW (a b c : Int) : Int := wrap64 (wrap64 (b * b) - wrap64 (wrap64 (4 * a) * c))
theorem discW_eq {a b c : Int} (ha : Bd 1000000 a) (hb : Bd 1000000 b) (hc : Bd 1000000 c) : discW a b c = b * b - 4 * a * c := by
  have h1 := mul_bd hb hb (show (1000000 : Int) * 1000000 ≤ 1000000000000 by decide)
  have h2 := mul_bd (show Bd 4000000 (4 * a) from ⟨by have := ha.1; omega, by have := ha.2; omega⟩) hc (show (4000000 : Int) * 1000000 ≤ 4000000000000 by decide)
  obtain ⟨a1, a2⟩ := ha
  obtain ⟨b1, b2⟩ := h1
  obtain ⟨c1, c2⟩ := h2
  unfold discW
  rw [IntWalk.wrap64_in (4 * a) ⟨by omega, by omega⟩, IntWalk.wrap64_in (b * b) ⟨by omega, by omega⟩, IntWalk.wrap64_in (4 * a * c) ⟨by omega, by omega⟩, IntWalk.wrap64_in _ ⟨by omega, by omega⟩]
theorem disc_any (a b c : Int) (w : World) :
    Calls Try.prog 111 #[.agg #[.int .i64 a, .int .i64 b, .int .i64 c]] w fun e w' => e = .returned (.int .i64 (discW a b c)) ∧ Below w.heap.size w w' := by
  go_enter Try.func111, Try.ntmps111
  go_wp2
  go_ret
  refine ⟨rfl, ?_⟩
  repeat (first | with_reducible exact Below.refl _ _ | with_reducible assumption | ((with_reducible refine blA ?_ ?_); (focus (first | omega | (simp <;> omega)))) | (with_reducible refine blD ?_) | (with_reducible refine blN ?_) | ((with_reducible refine blS ?_ ?_); (focus (first | omega | (simp <;> omega)))) | ((with_reducible refine blT (by assumption) ?_ ?_); (focus (first | omega | (simp <;> omega)))))
theorem foDisc_any (a b c : Int) (w : World) :
    Calls Try.prog 74 #[.agg #[.int .i64 a, .int .i64 b, .int .i64 c]] w fun e w' => e = .returned (.int .i64 (discW a b c)) ∧ Below w.heap.size w w' := by
  go_enter Try.func74, Try.ntmps74
  go_wp2
  go_ret
  refine ⟨rfl, ?_⟩
  repeat (first | with_reducible exact Below.refl _ _ | with_reducible assumption | ((with_reducible refine blA ?_ ?_); (focus (first | omega | (simp <;> omega)))) | (with_reducible refine blD ?_) | (with_reducible refine blN ?_) | ((with_reducible refine blS ?_ ?_); (focus (first | omega | (simp <;> omega)))) | ((with_reducible refine blT (by assumption) ?_ ?_); (focus (first | omega | (simp <;> omega)))))
/-- The value at x and y, as 64 bits have it. -/
def valW (a b c x y : Int) : Int := wrap64 (wrap64 (wrap64 (wrap64 (a * x) * x) + wrap64 (wrap64 (b * x) * y)) + wrap64 (wrap64 (c * y) * y))
theorem at_any (a b c x y : Int) (w : World) :
    Calls Try.prog 117 #[.agg #[.int .i64 a, .int .i64 b, .int .i64 c], .int .i64 x, .int .i64 y] w fun e w' => e = .returned (.int .i64 (valW a b c x y)) ∧ Below w.heap.size w w' := by
  go_enter Try.func117, Try.ntmps117
  go_wp2
  go_ret
  refine ⟨rfl, ?_⟩
  repeat (first | with_reducible exact Below.refl _ _ | with_reducible assumption | ((with_reducible refine blA ?_ ?_); (focus (first | omega | (simp <;> omega)))) | (with_reducible refine blD ?_) | (with_reducible refine blN ?_) | ((with_reducible refine blS ?_ ?_); (focus (first | omega | (simp <;> omega)))) | ((with_reducible refine blT (by assumption) ?_ ?_); (focus (first | omega | (simp <;> omega)))))
theorem foValue_any (a b c x y : Int) (w : World) :
    Calls Try.prog 114 #[.agg #[.int .i64 a, .int .i64 b, .int .i64 c], .int .i64 x, .int .i64 y] w fun e w' => e = .returned (.int .i64 (valW a b c x y)) ∧ Below w.heap.size w w' := by
  go_enter Try.func114, Try.ntmps114
  go_wp2
  go_ret
  refine ⟨rfl, ?_⟩
  repeat (first | with_reducible exact Below.refl _ _ | with_reducible assumption | ((with_reducible refine blA ?_ ?_); (focus (first | omega | (simp <;> omega)))) | (with_reducible refine blD ?_) | (with_reducible refine blN ?_) | ((with_reducible refine blS ?_ ?_); (focus (first | omega | (simp <;> omega)))) | ((with_reducible refine blT (by assumption) ?_ ?_); (focus (first | omega | (simp <;> omega)))))
/-- The polar form's value, as 64 bits have it. -/
def polW (a b c x y u v : Int) : Int := wrap64 (wrap64 (wrap64 (wrap64 (wrap64 (2 * a) * x) * u) + wrap64 (b * wrap64 (wrap64 (x * v) + wrap64 (y * u)))) + wrap64 (wrap64 (wrap64 (2 * c) * y) * v))
theorem polar_any (a b c x y u v : Int) (w : World) :
    Calls Try.prog 118 #[.agg #[.int .i64 a, .int .i64 b, .int .i64 c], .int .i64 x, .int .i64 y, .int .i64 u, .int .i64 v] w fun e w' => e = .returned (.int .i64 (polW a b c x y u v)) ∧ Below w.heap.size w w' := by
  go_enter Try.func118, Try.ntmps118
  go_wp2
  go_ret
  refine ⟨rfl, ?_⟩
  repeat (first | with_reducible exact Below.refl _ _ | with_reducible assumption | ((with_reducible refine blA ?_ ?_); (focus (first | omega | (simp <;> omega)))) | (with_reducible refine blD ?_) | (with_reducible refine blN ?_) | ((with_reducible refine blS ?_ ?_); (focus (first | omega | (simp <;> omega)))) | ((with_reducible refine blT (by assumption) ?_ ?_); (focus (first | omega | (simp <;> omega)))))
theorem foPolar_any (a b c x y u v : Int) (w : World) :
    Calls Try.prog 115 #[.agg #[.int .i64 a, .int .i64 b, .int .i64 c], .int .i64 x, .int .i64 y, .int .i64 u, .int .i64 v] w fun e w' => e = .returned (.int .i64 (polW a b c x y u v)) ∧ Below w.heap.size w w' := by
  go_enter Try.func115, Try.ntmps115
  go_wp2
  go_ret
  refine ⟨rfl, ?_⟩
  repeat (first | with_reducible exact Below.refl _ _ | with_reducible assumption | ((with_reducible refine blA ?_ ?_); (focus (first | omega | (simp <;> omega)))) | (with_reducible refine blD ?_) | (with_reducible refine blN ?_) | ((with_reducible refine blS ?_ ?_); (focus (first | omega | (simp <;> omega)))) | ((with_reducible refine blT (by assumption) ?_ ?_); (focus (first | omega | (simp <;> omega)))))
end Go.Proofs.Ytemnkfigjpphgaa

/-
  Square roots of integers.
-/
namespace Go.Proofs.Ytemnkfigjpphgaa
open Go.RowKit
attribute [local simp, local go_sem] past_cell past_frozen past_tape
/-- The greatest number whose square is at most n. -/
def sqrtN : Nat → Nat
  | 0 => 0
  | n + 1 => if (sqrtN n + 1) * (sqrtN n + 1) ≤ n + 1 then sqrtN n + 1 else sqrtN n
theorem sqrtN_spec (n : Nat) : sqrtN n * sqrtN n ≤ n ∧ n < (sqrtN n + 1) * (sqrtN n + 1) := by
  induction n with
  | zero => decide
  | succ n ih =>
    rw [sqrtN]
    obtain ⟨h1, h2⟩ := ih
    split
    · rename_i h
      refine ⟨h, ?_⟩
      generalize sqrtN n = r at *
      have : (r + 1 + 1) * (r + 1 + 1) = (r + 1) * (r + 1) + 2 * r + 3 := by simp only [Nat.add_mul, Nat.mul_add]; omega
      omega
    · exact ⟨by omega, by omega⟩
def isqrt (n : Int) : Int := (sqrtN n.toNat : Int)
theorem isqrt_spec {n : Int} (h : 0 ≤ n) : 0 ≤ isqrt n ∧ isqrt n * isqrt n ≤ n ∧ n < (isqrt n + 1) * (isqrt n + 1) := by
  obtain ⟨h1, h2⟩ := sqrtN_spec n.toNat
  unfold isqrt
  refine ⟨by omega, ?_, ?_⟩
  · have : ((sqrtN n.toNat * sqrtN n.toNat : Nat) : Int) ≤ (n.toNat : Int) := by exact_mod_cast h1
    push_cast at this; omega
  · have : ((n.toNat : Nat) : Int) < ((sqrtN n.toNat + 1) * (sqrtN n.toNat + 1) : Nat) := by exact_mod_cast h2
    push_cast at this; omega
theorem sq_lt {a b : Int} (ha : 0 ≤ a) (hb : 0 ≤ b) (h : a * a < b * b) : a < b := by
  refine Int.lt_of_not_ge fun hle => ?_
  have := Int.mul_le_mul hle hle hb (by omega)
  omega
theorem isqrt_unique {n r : Int} (hr : 0 ≤ r) (h1 : r * r ≤ n) (h2 : n < (r + 1) * (r + 1)) : isqrt n = r := by
  have hn : 0 ≤ n := Int.le_trans (Int.mul_nonneg hr hr) h1
  obtain ⟨a, b, c⟩ := isqrt_spec hn
  have e1 : isqrt n < r + 1 := sq_lt a (by omega) (by omega)
  have e2 : r < isqrt n + 1 := sq_lt hr (by omega) (by omega)
  omega
theorem mid_facts {l h H : Int} (h0 : 0 ≤ l) (h1 : l < h) (h2 : h ≤ H) (hH : H ≤ 3000000000) : l < (l + h + 1) / 2 ∧ (l + h + 1) / 2 ≤ h ∧ 0 ≤ (l + h + 1) / 2 * ((l + h + 1) / 2) ∧ (l + h + 1) / 2 * ((l + h + 1) / 2) ≤ 9000000000000000000 := by
  have a : l < (l + h + 1) / 2 := by omega
  have b : (l + h + 1) / 2 ≤ h := by omega
  obtain ⟨c, d⟩ := mul_bd (show Bd 3000000000 ((l + h + 1) / 2) from ⟨by omega, by omega⟩) (show Bd 3000000000 ((l + h + 1) / 2) from ⟨by omega, by omega⟩) (show (3000000000 : Int) * 3000000000 ≤ 9000000000000000000 by decide)
  exact ⟨a, b, Int.mul_nonneg (by omega) (by omega), d⟩
set_option maxHeartbeats 400000 in
theorem root_any (n : Int) (w : World) (h0 : 0 ≤ n) (h1 : n ≤ 900000000000000000) :
    Calls Try.prog 109 #[.int .i64 n] w fun e w' => e = .returned (.int .i64 (isqrt n)) ∧ w = w' := by
  go_enter Try.func109, Try.ntmps109
  go_wp2
  go_loop [3, 4] (fun x y => ∃ l h : Int, 0 ≤ l ∧ l ≤ h ∧ h ≤ 3000000000 ∧ Hid (l * l ≤ n) ∧ Hid (n < (h + 1) * (h + 1)) ∧ x = .int .i64 l ∧ y = .int .i64 h) (fun x y => (intOf y - intOf x).toNat)
  case atStart => exact ⟨0, 3000000000, by omega, by omega, by omega, by show _ ≤ _; omega, by show _ < _; omega, rfl, rfl⟩
  case round =>
    obtain ⟨l, h, hl0, hlh, hH, ha, hb, rfl, rfl⟩ := hrel
    by_cases hlt : l < h
    · obtain ⟨m1, m2, m3, m4⟩ := mid_facts hl0 hlt hH (by omega)
      by_cases hc : (l + h + 1) / 2 * ((l + h + 1) / 2) ≤ n
      · go_wp2
        go_round
        case rel => exact ⟨_, h, by omega, by omega, by omega, hc, hb, rfl, rfl⟩
        case measure => simp [intOf]; omega
      · have hc2 : Hid (n < ((l + h + 1) / 2 - 1 + 1) * ((l + h + 1) / 2 - 1 + 1)) := by
          show n < _
          rw [show (l + h + 1) / 2 - 1 + 1 = (l + h + 1) / 2 by omega]
          omega
        go_wp2
        go_round
        case rel => exact ⟨l, _, by omega, by omega, by omega, ha, hc2, rfl, rfl⟩
        case measure => simp [intOf]; omega
    · obtain rfl : l = h := by omega
      go_wp2
      go_ret
      exact ⟨ret_int (isqrt_unique hl0 ha.out hb.out).symm, rfl⟩
set_option maxHeartbeats 400000 in
theorem nuRoot_any (n : Int) (w : World) (h0 : 0 ≤ n) (h1 : n ≤ 900000000000000000) :
    Calls Try.prog 106 #[.int .i64 n] w fun e w' => e = .returned (.int .i64 (isqrt n)) ∧ w = w' := by
  go_enter Try.func106, Try.ntmps106
  go_wp2
  go_loop [3, 4] (fun x y => ∃ l h : Int, 0 ≤ l ∧ l ≤ h ∧ h ≤ 1000000000 ∧ Hid (l * l ≤ n) ∧ Hid (n < (h + 1) * (h + 1)) ∧ x = .int .i64 l ∧ y = .int .i64 h) (fun x y => (intOf y - intOf x).toNat)
  case atStart => exact ⟨0, 1000000000, by omega, by omega, by omega, by show _ ≤ _; omega, by show _ < _; omega, rfl, rfl⟩
  case round =>
    obtain ⟨l, h, hl0, hlh, hH, ha, hb, rfl, rfl⟩ := hrel
    by_cases hlt : l < h
    · obtain ⟨m1, m2, m3, m4⟩ := mid_facts hl0 hlt hH (by omega)
      by_cases hc : (l + h + 1) / 2 * ((l + h + 1) / 2) ≤ n
      · go_wp2
        go_round
        case rel => exact ⟨_, h, by omega, by omega, by omega, hc, hb, rfl, rfl⟩
        case measure => simp [intOf]; omega
      · have hc2 : Hid (n < ((l + h + 1) / 2 - 1 + 1) * ((l + h + 1) / 2 - 1 + 1)) := by
          show n < _
          rw [show (l + h + 1) / 2 - 1 + 1 = (l + h + 1) / 2 by omega]
          omega
        go_wp2
        go_round
        case rel => exact ⟨l, _, by omega, by omega, by omega, ha, hc2, rfl, rfl⟩
        case measure => simp [intOf]; omega
    · obtain rfl : l = h := by omega
      go_wp2
      go_ret
      exact ⟨ret_int (isqrt_unique hl0 ha.out hb.out).symm, rfl⟩
/-- A square. -/
def sqB (n : Int) : Bool := decide (0 ≤ n) && decide (isqrt n * isqrt n = n)
theorem isqrt_bd {n : Int} (h0 : 0 ≤ n) (h1 : n ≤ 900000000000000000) : 0 ≤ isqrt n ∧ isqrt n ≤ 1000000000 ∧ 0 ≤ isqrt n * isqrt n ∧ isqrt n * isqrt n ≤ 900000000000000000 := by
  obtain ⟨a, b, c⟩ := isqrt_spec h0
  have : isqrt n < 1000000001 := sq_lt a (by omega) (by omega)
  exact ⟨a, by omega, Int.mul_nonneg a a, by omega⟩
theorem isSquare_any (n : Int) (w : World) (h1 : n ≤ 900000000000000000) :
    Calls Try.prog 63 #[.int .i64 n] w fun e w' => e = .returned (.bool (sqB n)) ∧ w = w' := by
  by_cases h0 : 0 ≤ n
  · obtain ⟨a, b, c, d⟩ := isqrt_bd h0 h1
    go_enter Try.func63, Try.ntmps63
    go_wp2_with (go_at_call 109; refine (root_any _ _ (by assumption) (by assumption)).mono ?_; rintro e w' ⟨rfl, rfl⟩)
    go_ret
    refine ⟨ret_bool ?_, rfl⟩
    rw [Bool.eq_iff_iff]; simp [sqB, h0]
  · have hs : Hid (sqB n = false) := by show _ = _; simp [sqB, h0]
    go_enter Try.func63, Try.ntmps63
    go_wp2
    go_ret
    exact ⟨ret_bool hs.out.symm, rfl⟩
theorem nuSquare_any (n : Int) (w : World) (h1 : n ≤ 900000000000000000) :
    Calls Try.prog 64 #[.int .i64 n] w fun e w' => e = .returned (.bool (sqB n)) ∧ w = w' := by
  by_cases h0 : 0 ≤ n
  · obtain ⟨a, b, c, d⟩ := isqrt_bd h0 h1
    go_enter Try.func64, Try.ntmps64
    go_wp2_with (go_at_call 106; refine (nuRoot_any _ _ (by assumption) (by assumption)).mono ?_; rintro e w' ⟨rfl, rfl⟩)
    go_ret
    refine ⟨ret_bool ?_, rfl⟩
    rw [Bool.eq_iff_iff]; simp [sqB, h0]
  · have hs : Hid (sqB n = false) := by show _ = _; simp [sqB, h0]
    go_enter Try.func64, Try.ntmps64
    go_wp2
    go_ret
    exact ⟨ret_bool hs.out.symm, rfl⟩
end Go.Proofs.Ytemnkfigjpphgaa
