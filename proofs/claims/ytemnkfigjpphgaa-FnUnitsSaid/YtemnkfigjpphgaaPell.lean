/-
  Square roots of integers.
-/
import Derived.Test.YtemnkfigjpphgaaForm
namespace Go.Proofs.Ytemnkfigjpphgaa
open Go.RowKit
attribute [local simp, local go_sem] past_cell past_frozen past_tape
/-- The greatest number whose square is at most n. -/
def sqrtN : Nat → Nat
  | 0 => 0
  | n + 1 => if (sqrtN n + 1) * (sqrtN n + 1) ≤ n + 1 then sqrtN n + 1 else sqrtN n
theorem sqrtN_spec (n : Nat) : sqrtN n * sqrtN n ≤ n ∧ n < (sqrtN n + 1) * (sqrtN n + 1) := by
  induction n with
  | zero => decide
  | succ n ih =>
    rw [sqrtN]
    obtain ⟨h1, h2⟩ := ih
    split
    · rename_i h
      refine ⟨h, ?_⟩
      generalize sqrtN n = r at *
      have : (r + 1 + 1) * (r + 1 + 1) = (r + 1) * (r + 1) + 2 * r + 3 := by simp only [Nat.add_mul, Nat.mul_add]; omega
      omega
    · exact ⟨by omega, by omega⟩
def isqrt (n : Int) : Int := (sqrtN n.toNat : Int)
theorem isqrt_spec {n : Int} (h : 0 ≤ n) : 0 ≤ isqrt n ∧ isqrt n * isqrt n ≤ n ∧ n < (isqrt n + 1) * (isqrt n + 1) := by
  obtain ⟨h1, h2⟩ := sqrtN_spec n.toNat
  unfold isqrt
  refine ⟨by omega, ?_, ?_⟩
  · have : ((sqrtN n.toNat * sqrtN n.toNat : Nat) : Int) ≤ (n.toNat : Int) := by exact_mod_cast h1
    push_cast at this; omega
  · have : ((n.toNat : Nat) : Int) < ((sqrtN n.toNat + 1) * (sqrtN n.toNat + 1) : Nat) := by exact_mod_cast h2
    push_cast at this; omega
theorem sq_lt {a b : Int} (ha : 0 ≤ a) (hb : 0 ≤ b) (h : a * a < b * b) : a < b := by
  refine Int.lt_of_not_ge fun hle => ?_
  have := Int.mul_le_mul hle hle hb (by omega)
  omega
theorem isqrt_unique {n r : Int} (hr : 0 ≤ r) (h1 : r * r ≤ n) (h2 : n < (r + 1) * (r + 1)) : isqrt n = r := by
  have hn : 0 ≤ n := Int.le_trans (Int.mul_nonneg hr hr) h1
  obtain ⟨a, b, c⟩ := isqrt_spec hn
  have e1 : isqrt n < r + 1 := sq_lt a (by omega) (by omega)
  have e2 : r < isqrt n + 1 := sq_lt hr (by omega) (by omega)
  omega
theorem mid_facts {l h H : Int} (h0 : 0 ≤ l) (h1 : l < h) (h2 : h ≤ H) (hH : H ≤ 3000000000) : l < (l + h + 1) / 2 ∧ (l + h + 1) / 2 ≤ h ∧ 0 ≤ (l + h + 1) / 2 * ((l + h + 1) / 2) ∧ (l + h + 1) / 2 * ((l + h + 1) / 2) ≤ 9000000000000000000 := by
  have a : l < (l + h + 1) / 2 := by omega
  have b : (l + h + 1) / 2 ≤ h := by omega
  obtain ⟨c, d⟩ := mul_bd (show Bd 3000000000 ((l + h + 1) / 2) from ⟨by omega, by omega⟩) (show Bd 3000000000 ((l + h + 1) / 2) from ⟨by omega, by omega⟩) (show (3000000000 : Int) * 3000000000 ≤ 9000000000000000000 by decide)
  exact ⟨a, b, Int.mul_nonneg (by omega) (by omega), d⟩
set_option maxHeartbeats 400000 in
theorem root_any (n : Int) (w : World) (h0 : 0 ≤ n) (h1 : n ≤ 900000000000000000) :
    Calls Try.prog 109 #[.int .i64 n] w fun e w' => e = .returned (.int .i64 (isqrt n)) ∧ w = w' := by
  go_enter Try.func109, Try.ntmps109
  go_wp2
  go_loop [3, 4] (fun x y => ∃ l h : Int, 0 ≤ l ∧ l ≤ h ∧ h ≤ 3000000000 ∧ Hid (l * l ≤ n) ∧ Hid (n < (h + 1) * (h + 1)) ∧ x = .int .i64 l ∧ y = .int .i64 h) (fun x y => (intOf y - intOf x).toNat)
  case atStart => exact ⟨0, 3000000000, by omega, by omega, by omega, by show _ ≤ _; omega, by show _ < _; omega, rfl, rfl⟩
  case round =>
    obtain ⟨l, h, hl0, hlh, hH, ha, hb, rfl, rfl⟩ := hrel
    by_cases hlt : l < h
    · obtain ⟨m1, m2, m3, m4⟩ := mid_facts hl0 hlt hH (by omega)
      by_cases hc : (l + h + 1) / 2 * ((l + h + 1) / 2) ≤ n
      · go_wp2
        go_round
        case rel => exact ⟨_, h, by omega, by omega, by omega, hc, hb, rfl, rfl⟩
        case measure => simp [intOf]; omega
      · have hc2 : Hid (n < ((l + h + 1) / 2 - 1 + 1) * ((l + h + 1) / 2 - 1 + 1)) := by
          show n < _
          rw [show (l + h + 1) / 2 - 1 + 1 = (l + h + 1) / 2 by omega]
          omega
        go_wp2
        go_round
        case rel => exact ⟨l, _, by omega, by omega, by omega, ha, hc2, rfl, rfl⟩
        case measure => simp [intOf]; omega
    · obtain rfl : l = h := by omega
      go_wp2
      go_ret
      exact ⟨ret_int (isqrt_unique hl0 ha.out hb.out).symm, rfl⟩
set_option maxHeartbeats 400000 in
theorem nuRoot_any (n : Int) (w : World) (h0 : 0 ≤ n) (h1 : n ≤ 900000000000000000) :
    Calls Try.prog 106 #[.int .i64 n] w fun e w' => e = .returned (.int .i64 (isqrt n)) ∧ w = w' := by
  go_enter Try.func106, Try.ntmps106
  go_wp2
  go_loop [3, 4] (fun x y => ∃ l h : Int, 0 ≤ l ∧ l ≤ h ∧ h ≤ 1000000000 ∧ Hid (l * l ≤ n) ∧ Hid (n < (h + 1) * (h + 1)) ∧ x = .int .i64 l ∧ y = .int .i64 h) (fun x y => (intOf y - intOf x).toNat)
  case atStart => exact ⟨0, 1000000000, by omega, by omega, by omega, by show _ ≤ _; omega, by show _ < _; omega, rfl, rfl⟩
  case round =>
    obtain ⟨l, h, hl0, hlh, hH, ha, hb, rfl, rfl⟩ := hrel
    by_cases hlt : l < h
    · obtain ⟨m1, m2, m3, m4⟩ := mid_facts hl0 hlt hH (by omega)
      by_cases hc : (l + h + 1) / 2 * ((l + h + 1) / 2) ≤ n
      · go_wp2
        go_round
        case rel => exact ⟨_, h, by omega, by omega, by omega, hc, hb, rfl, rfl⟩
        case measure => simp [intOf]; omega
      · have hc2 : Hid (n < ((l + h + 1) / 2 - 1 + 1) * ((l + h + 1) / 2 - 1 + 1)) := by
          show n < _
          rw [show (l + h + 1) / 2 - 1 + 1 = (l + h + 1) / 2 by omega]
          omega
        go_wp2
        go_round
        case rel => exact ⟨l, _, by omega, by omega, by omega, ha, hc2, rfl, rfl⟩
        case measure => simp [intOf]; omega
    · obtain rfl : l = h := by omega
      go_wp2
      go_ret
      exact ⟨ret_int (isqrt_unique hl0 ha.out hb.out).symm, rfl⟩
/-- A square. -/
def sqB (n : Int) : Bool := decide (0 ≤ n) && decide (isqrt n * isqrt n = n)
theorem isqrt_bd {n : Int} (h0 : 0 ≤ n) (h1 : n ≤ 900000000000000000) : 0 ≤ isqrt n ∧ isqrt n ≤ 1000000000 ∧ 0 ≤ isqrt n * isqrt n ∧ isqrt n * isqrt n ≤ 900000000000000000 := by
  obtain ⟨a, b, c⟩ := isqrt_spec h0
  have : isqrt n < 1000000001 := sq_lt a (by omega) (by omega)
  exact ⟨a, by omega, Int.mul_nonneg a a, by omega⟩
theorem isSquare_any (n : Int) (w : World) (h1 : n ≤ 900000000000000000) :
    Calls Try.prog 63 #[.int .i64 n] w fun e w' => e = .returned (.bool (sqB n)) ∧ w = w' := by
  by_cases h0 : 0 ≤ n
  · obtain ⟨a, b, c, d⟩ := isqrt_bd h0 h1
    go_enter Try.func63, Try.ntmps63
    go_wp2_with (go_at_call 109; refine (root_any _ _ (by assumption) (by assumption)).mono ?_; rintro e w' ⟨rfl, rfl⟩)
    go_ret
    refine ⟨ret_bool ?_, rfl⟩
    rw [Bool.eq_iff_iff]; simp [sqB, h0]
  · have hs : Hid (sqB n = false) := by show _ = _; simp [sqB, h0]
    go_enter Try.func63, Try.ntmps63
    go_wp2
    go_ret
    exact ⟨ret_bool hs.out.symm, rfl⟩
theorem nuSquare_any (n : Int) (w : World) (h1 : n ≤ 900000000000000000) :
    Calls Try.prog 64 #[.int .i64 n] w fun e w' => e = .returned (.bool (sqB n)) ∧ w = w' := by
  by_cases h0 : 0 ≤ n
  · obtain ⟨a, b, c, d⟩ := isqrt_bd h0 h1
    go_enter Try.func64, Try.ntmps64
    go_wp2_with (go_at_call 106; refine (nuRoot_any _ _ (by assumption) (by assumption)).mono ?_; rintro e w' ⟨rfl, rfl⟩)
    go_ret
    refine ⟨ret_bool ?_, rfl⟩
    rw [Bool.eq_iff_iff]; simp [sqB, h0]
  · have hs : Hid (sqB n = false) := by show _ = _; simp [sqB, h0]
    go_enter Try.func64, Try.ntmps64
    go_wp2
    go_ret
    exact ⟨ret_bool hs.out.symm, rfl⟩
end Go.Proofs.Ytemnkfigjpphgaa

/-
  Products of solutions of Pell's equations.
-/
namespace Go.Proofs.Ytemnkfigjpphgaa
open Go.RowKit
attribute [local simp, local go_sem] past_cell past_frozen past_tape
/-- A positive discriminant that is no square, in the program's range. -/
def posB (d : Int) : Bool := decide (5 ≤ d ∧ d ≤ 1000 ∧ d % 4 ≤ 1) && !sqB d
theorem posB_true {d : Int} (h : posB d = true) : 5 ≤ d ∧ d ≤ 1000 := by
  simp only [posB, Bool.and_eq_true, decide_eq_true_eq] at h
  omega
theorem isPositiveDisc_any (d : Int) (w : World) (h : I64 d) :
    Calls Try.prog 44 #[.int .i64 d] w fun en w' => en = .returned (.bool (posB d)) ∧ w = w' := by
  by_cases c : 5 ≤ d ∧ d ≤ 1000 ∧ d % 4 ≤ 1
  · have hs : Hid (posB d = !sqB d) := by show _ = _; simp [posB, c]
    obtain ⟨c1, c2, c3⟩ := c
    go_enter Try.func44, Try.ntmps44
    go_wp2_with (first | (go_at_call 101; refine (mod_any _ _ _ h (by omega) (by omega)).mono ?_; rintro e w' ⟨rfl, rfl⟩) | (go_at_call 63; refine (isSquare_any _ _ (by omega)).mono ?_; rintro e w' ⟨rfl, rfl⟩))
    go_ret
    exact ⟨ret_bool hs.out.symm, rfl⟩
  · have hs : Hid (posB d = false) := by show _ = _; simp [posB, c]
    by_cases c1 : 5 ≤ d
    · by_cases c2 : d ≤ 1000
      · have c3 : ¬ d % 4 ≤ 1 := fun h => c ⟨c1, c2, h⟩
        clear c
        go_enter Try.func44, Try.ntmps44
        go_wp2_with (go_at_call 101; refine (mod_any _ _ _ h (by omega) (by omega)).mono ?_; rintro e w' ⟨rfl, rfl⟩)
        go_ret
        exact ⟨ret_bool hs.out.symm, rfl⟩
      · clear c
        go_enter Try.func44, Try.ntmps44
        go_wp2
        go_ret
        exact ⟨ret_bool hs.out.symm, rfl⟩
    · clear c
      go_enter Try.func44, Try.ntmps44
      go_wp2
      go_ret
      exact ⟨ret_bool hs.out.symm, rfl⟩
theorem cyDisc_any (d : Int) (w : World) (h : I64 d) :
    Calls Try.prog 46 #[.int .i64 d] w fun en w' => en = .returned (.bool (posB d)) ∧ w = w' := by
  by_cases c0 : 5 ≤ d ∧ d ≤ 1000
  · have hin : inB d 5 1000 = true := decide_eq_true c0
    by_cases c1 : d % 4 < 2
    · have hs : Hid (posB d = !sqB d) := by show _ = _; have : 5 ≤ d ∧ d ≤ 1000 ∧ d % 4 ≤ 1 := by omega
                                            simp [posB, this]
      obtain ⟨c2, c3⟩ := c0
      go_enter Try.func46, Try.ntmps46
      go_wp2_with (first | (go_at_call 47; refine (l1In_any _ _ _ _).mono ?_; rintro e w' ⟨rfl, rfl⟩) | (go_at_call 102; refine (nuMod_any _ _ _ h (by omega) (by omega)).mono ?_; rintro e w' ⟨rfl, rfl⟩) | (go_at_call 64; refine (nuSquare_any _ _ (by omega)).mono ?_; rintro e w' ⟨rfl, rfl⟩))
      go_ret
      exact ⟨ret_bool hs.out.symm, rfl⟩
    · have hs : Hid (posB d = false) := by show _ = _; have : ¬ (5 ≤ d ∧ d ≤ 1000 ∧ d % 4 ≤ 1) := by omega
                                           simp [posB, this]
      obtain ⟨c2, c3⟩ := c0
      go_enter Try.func46, Try.ntmps46
      go_wp2_with (first | (go_at_call 47; refine (l1In_any _ _ _ _).mono ?_; rintro e w' ⟨rfl, rfl⟩) | (go_at_call 102; refine (nuMod_any _ _ _ h (by omega) (by omega)).mono ?_; rintro e w' ⟨rfl, rfl⟩))
      go_ret
      exact ⟨ret_bool hs.out.symm, rfl⟩
  · have hin : inB d 5 1000 = false := decide_eq_false c0
    have hs : Hid (posB d = false) := by show _ = _; have : ¬ (5 ≤ d ∧ d ≤ 1000 ∧ d % 4 ≤ 1) := by omega
                                         simp [posB, this]
    go_enter Try.func46, Try.ntmps46
    go_wp2_with (go_at_call 47; refine (l1In_any _ _ _ _).mono ?_; rintro e w' ⟨rfl, rfl⟩)
    go_ret
    exact ⟨ret_bool hs.out.symm, rfl⟩
/-- A small solution. -/
def smallB (t u : Int) : Bool := decide (-100000000 ≤ t ∧ t ≤ 100000000) && numB u
theorem smallB_bd {t u : Int} (h : smallB t u = true) : Bd 100000000 t ∧ Bd 1000000 u := by
  simp only [smallB, Bool.and_eq_true] at h
  have h1 : -100000000 ≤ t ∧ t ≤ 100000000 := of_decide_eq_true h.1
  exact ⟨h1, numB_bd h.2⟩
theorem absI_le' {n k : Int} (h : I64 n) (hk : 0 ≤ k) (hk' : k < 9223372036854775807) : absI n ≤ k ↔ (-k ≤ n ∧ n ≤ k) := by
  unfold absI; obtain ⟨h1, h2⟩ := h
  split
  · omega
  · split <;> omega
theorem isSmall_any (t u : Int) (w : World) (h : I64 t) :
    Calls Try.prog 50 #[.agg #[.int .i64 t, .int .i64 u]] w fun en w' => en = .returned (.bool (smallB t u)) ∧ Below w.heap.size w w' := by
  have e := absI_le' (k := 100000000) h (by omega) (by omega)
  by_cases c : -100000000 ≤ t ∧ t ≤ 100000000
  · have hs : Hid (smallB t u = [u].all numB) := by show _ = _; simp [smallB, c]
    have ht : absI t ≤ 100000000 := e.2 c
    clear e
    go_enter Try.func50, Try.ntmps50
    go_wp2_with fail
    refine (abs_any t _ h).mono ?_
    rintro e1 w1 ⟨rfl, rfl⟩
    go_wp2_with fail
    refine (areNumbers_any [u] _ _ (by simp) ?hc).mono ?_
    case hc => intro i hi; match i, hi with | 0, _ => simp [go_sem]
    rintro e2 w2 ⟨rfl, rfl⟩
    go_wp2
    go_ret
    refine ⟨ret_bool (by rw [hs.out]; simp), ?_⟩
    repeat (first | with_reducible exact Below.refl _ _ | with_reducible assumption | ((with_reducible refine blA ?_ ?_); (focus (first | omega | (simp <;> omega)))) | (with_reducible refine blD ?_) | (with_reducible refine blN ?_) | ((with_reducible refine blS ?_ ?_); (focus (first | omega | (simp <;> omega)))) | ((with_reducible refine blT (by assumption) ?_ ?_); (focus (first | omega | (simp <;> omega)))))
  · have hs : Hid (smallB t u = false) := by show _ = _; simp [smallB, c]
    have ht : ¬ absI t ≤ 100000000 := fun h => c (e.1 h)
    clear e c
    go_enter Try.func50, Try.ntmps50
    go_wp2_with (go_at_call 51; refine (abs_any _ _ h).mono ?_; rintro e w' ⟨rfl, rfl⟩)
    go_ret
    refine ⟨ret_bool (by rw [hs.out]), ?_⟩
    repeat (first | with_reducible exact Below.refl _ _ | with_reducible assumption | ((with_reducible refine blA ?_ ?_); (focus (first | omega | (simp <;> omega)))) | (with_reducible refine blD ?_) | (with_reducible refine blN ?_) | ((with_reducible refine blS ?_ ?_); (focus (first | omega | (simp <;> omega)))) | ((with_reducible refine blT (by assumption) ?_ ?_); (focus (first | omega | (simp <;> omega)))))
theorem unSmall_any (t u : Int) (w : World) :
    Calls Try.prog 61 #[.agg #[.int .i64 t, .int .i64 u]] w fun en w' => en = .returned (.bool (smallB t u)) ∧ Below w.heap.size w w' := by
  go_enter Try.func61, Try.ntmps61
  go_wp2_with (first | (go_at_call 47; refine (l1In_any _ _ _ _).mono ?_; rintro e w' ⟨rfl, rfl⟩) | (go_at_call 108; refine (nuGood_any _ _).mono ?_; rintro e w' ⟨rfl, rfl⟩))
  all_goals
    go_ret
    refine ⟨ret_bool ?_, ?_⟩
    · go_light; simp_all [smallB, inB]; try (intros; omega)
    · repeat (first | with_reducible exact Below.refl _ _ | with_reducible assumption | ((with_reducible refine blA ?_ ?_); (focus (first | omega | (simp <;> omega)))) | (with_reducible refine blD ?_) | (with_reducible refine blN ?_) | ((with_reducible refine blS ?_ ?_); (focus (first | omega | (simp <;> omega)))) | ((with_reducible refine blT (by assumption) ?_ ?_); (focus (first | omega | (simp <;> omega)))))
theorem norm_bd {d t u : Int} (hd : posB d = true) (h : smallB t u = true) : Bd 10000000000000000 (t * t) ∧ Bd 1000000000 (d * u) ∧ Bd 1000000000000000 (d * u * u) ∧ J64 (t * t - d * u * u) := by
  obtain ⟨d1, d2⟩ := posB_true hd
  obtain ⟨b1, b2⟩ := smallB_bd h
  have e1 := mul_bd b1 b1 (show (100000000 : Int) * 100000000 ≤ 10000000000000000 by decide)
  have e2 := mul_bd (show Bd 1000 d from ⟨by omega, by omega⟩) b2 (show (1000 : Int) * 1000000 ≤ 1000000000 by decide)
  have e3 := mul_bd e2 b2 (show (1000000000 : Int) * 1000000 ≤ 1000000000000000 by decide)
  refine ⟨e1, e2, e3, ?_⟩
  obtain ⟨p1, p2⟩ := e1
  obtain ⟨q1, q2⟩ := e3
  exact ⟨by omega, by omega⟩
theorem norm_any (d t u : Int) (w : World) (hd : posB d = true) (h : smallB t u = true) :
    Calls Try.prog 52 #[.agg #[.int .i64 t, .int .i64 u], .int .i64 d] w fun en w' => en = .returned (.int .i64 (t * t - d * u * u)) ∧ Below w.heap.size w w' := by
  obtain ⟨⟨e1, e2⟩, ⟨e3, e4⟩, ⟨e5, e6⟩, ⟨e7, e8⟩⟩ := norm_bd hd h
  go_enter Try.func52, Try.ntmps52
  go_wp2
  go_ret
  refine ⟨rfl, ?_⟩
  repeat (first | with_reducible exact Below.refl _ _ | with_reducible assumption | ((with_reducible refine blA ?_ ?_); (focus (first | omega | (simp <;> omega)))) | (with_reducible refine blD ?_) | (with_reducible refine blN ?_) | ((with_reducible refine blS ?_ ?_); (focus (first | omega | (simp <;> omega)))) | ((with_reducible refine blT (by assumption) ?_ ?_); (focus (first | omega | (simp <;> omega)))))
/-- The norm is 4 or -4. -/
def nrmB (d t u : Int) : Bool := decide (((t * t - d * u * u).natAbs : Int) = 4)
def solB (d t u : Int) : Bool := smallB t u && nrmB d t u
theorem unIs_any (d t u : Int) (w : World) (hd : posB d = true) :
    Calls Try.prog 60 #[.int .i64 d, .agg #[.int .i64 t, .int .i64 u]] w fun en w' => en = .returned (.bool (solB d t u)) ∧ Below w.heap.size w w' := by
  by_cases c : smallB t u = true
  · obtain ⟨⟨e1, e2⟩, ⟨e3, e4⟩, ⟨e5, e6⟩, e7⟩ := norm_bd hd c
    have hs : Hid (solB d t u = nrmB d t u) := by show _ = _; simp [solB, c]
    have e8 := e7.1
    have e9 := e7.2
    go_enter Try.func60, Try.ntmps60
    go_wp2_with (first | (go_at_call 61; refine (unSmall_any _ _ _).mono ?_; rintro e w' ⟨rfl, hB⟩; obtain ⟨hC, hF⟩ := bcell hB; have hS := hB.size; (try simp at hS); (try have hSl := Nat.lt_of_succ_le hS); (try have hS0 : w.heap.size < w'.heap.size := by omega); (try have hS1 : w.heap.size + 1 < w'.heap.size := by omega); (try have hS2 : w.heap.size + 1 + 1 < w'.heap.size := by omega); (try have hS3 : w.heap.size + 1 + 1 + 1 < w'.heap.size := by omega)) | (go_at_call 107; refine (l1Abs_any _ _ e7).mono ?_; rintro e w' ⟨rfl, rfl⟩))
    go_ret
    refine ⟨ret_bool ?_, ?_⟩
    · go_light; rw [hs.out]; unfold nrmB; rw [Bool.eq_iff_iff]; simp
    · repeat (first | with_reducible exact Below.refl _ _ | with_reducible assumption | ((with_reducible refine blA ?_ ?_); (focus (first | omega | (simp <;> omega)))) | (with_reducible refine blD ?_) | (with_reducible refine blN ?_) | ((with_reducible refine blS ?_ ?_); (focus (first | omega | (simp <;> omega)))) | ((with_reducible refine blT (by assumption) ?_ ?_); (focus (first | omega | (simp <;> omega)))))
  · have hs : Hid (solB d t u = false) := by show _ = _; simp [solB, c]
    have c' : smallB t u = false := by simpa using c
    clear c
    go_enter Try.func60, Try.ntmps60
    go_wp2_with (go_at_call 61; refine (unSmall_any _ _ _).mono ?_; rintro e w' ⟨rfl, hB⟩; obtain ⟨hC, hF⟩ := bcell hB; have hS := hB.size; (try simp at hS); (try have hSl := Nat.lt_of_succ_le hS); (try have hS0 : w.heap.size < w'.heap.size := by omega); (try have hS1 : w.heap.size + 1 < w'.heap.size := by omega); (try have hS2 : w.heap.size + 1 + 1 < w'.heap.size := by omega); (try have hS3 : w.heap.size + 1 + 1 + 1 < w'.heap.size := by omega))
    go_ret
    refine ⟨ret_bool hs.out.symm, ?_⟩
    repeat (first | with_reducible exact Below.refl _ _ | with_reducible assumption | ((with_reducible refine blA ?_ ?_); (focus (first | omega | (simp <;> omega)))) | (with_reducible refine blD ?_) | (with_reducible refine blN ?_) | ((with_reducible refine blS ?_ ?_); (focus (first | omega | (simp <;> omega)))) | ((with_reducible refine blT (by assumption) ?_ ?_); (focus (first | omega | (simp <;> omega)))))
/-- The product of two solutions. -/
def pT (d t u t' u' : Int) : Int := (t * t' + d * u * u').tdiv 2
def pU (t u t' u' : Int) : Int := (t * u' + u * t').tdiv 2
theorem prod_bd {d t u t' u' : Int} (hd : posB d = true) (h : smallB t u = true) (h' : smallB t' u' = true) : Bd 10000000000000000 (t * t') ∧ Bd 1000000000 (d * u) ∧ Bd 1000000000000000 (d * u * u') ∧ Bd 100000000000000 (t * u') ∧ Bd 100000000000000 (u * t') := by
  obtain ⟨d1, d2⟩ := posB_true hd
  obtain ⟨b1, b2⟩ := smallB_bd h
  obtain ⟨b3, b4⟩ := smallB_bd h'
  have e1 := mul_bd b1 b3 (show (100000000 : Int) * 100000000 ≤ 10000000000000000 by decide)
  have e2 := mul_bd (show Bd 1000 d from ⟨by omega, by omega⟩) b2 (show (1000 : Int) * 1000000 ≤ 1000000000 by decide)
  have e3 := mul_bd e2 b4 (show (1000000000 : Int) * 1000000 ≤ 1000000000000000 by decide)
  have e4 := mul_bd b1 b4 (show (100000000 : Int) * 1000000 ≤ 100000000000000 by decide)
  have e5 := mul_bd b2 b3 (show (1000000 : Int) * 100000000 ≤ 100000000000000 by decide)
  exact ⟨e1, e2, e3, e4, e5⟩
theorem pT_I {d t u t' u' : Int} (hd : posB d = true) (h : smallB t u = true) (h' : smallB t' u' = true) : I64 (pT d t u t' u') := by
  obtain ⟨⟨e1, e2⟩, _, ⟨e3, e4⟩, _, _⟩ := prod_bd hd h h'
  obtain ⟨a, b⟩ := tdiv_bd 2 (show Bd 20000000000000000 (t * t' + d * u * u') from ⟨by omega, by omega⟩)
  unfold pT
  exact ⟨by omega, by omega⟩
set_option maxHeartbeats 800000 in
theorem pellTimes_any (d t u t' u' : Int) (w : World) (hd : posB d = true) (h : smallB t u = true) (h' : smallB t' u' = true) :
    Calls Try.prog 53 #[.int .i64 d, .agg #[.int .i64 t, .int .i64 u], .agg #[.int .i64 t', .int .i64 u']] w fun en w' => en = .returned (.agg #[.int .i64 (pT d t u t' u'), .int .i64 (pU t u t' u')]) ∧ Below w.heap.size w w' := by
  obtain ⟨⟨e1, e2⟩, ⟨e3, e4⟩, ⟨e5, e6⟩, ⟨e7, e8⟩, ⟨e9, e10⟩⟩ := prod_bd hd h h'
  go_enter Try.func53, Try.ntmps53
  go_wp2
  refine bodyPost_ret (v := .agg #[.int .i64 ((t * t' + d * u * u').tdiv 2), .int .i64 ((t * u' + u * t').tdiv 2)]) (by go_light; simp [results, Try.results53, go_sem, *]) rfl ⟨rfl, ?_⟩
  repeat (first | with_reducible exact Below.refl _ _ | with_reducible assumption | ((with_reducible refine blA ?_ ?_); (focus (first | omega | (simp <;> omega)))) | (with_reducible refine blD ?_) | (with_reducible refine blN ?_) | ((with_reducible refine blS ?_ ?_); (focus (first | omega | (simp <;> omega)))) | ((with_reducible refine blT (by assumption) ?_ ?_); (focus (first | omega | (simp <;> omega)))))
set_option maxHeartbeats 800000 in
theorem unProduct_any (d t u t' u' : Int) (w : World) (hd : posB d = true) (h : smallB t u = true) (h' : smallB t' u' = true) :
    Calls Try.prog 62 #[.int .i64 d, .agg #[.int .i64 t, .int .i64 u], .agg #[.int .i64 t', .int .i64 u']] w fun en w' => en = .returned (.agg #[.int .i64 (pT d t u t' u'), .int .i64 (pU t u t' u')]) ∧ Below w.heap.size w w' := by
  obtain ⟨⟨e1, e2⟩, ⟨e3, e4⟩, ⟨e5, e6⟩, ⟨e7, e8⟩, ⟨e9, e10⟩⟩ := prod_bd hd h h'
  go_enter Try.func62, Try.ntmps62
  go_wp2
  refine bodyPost_ret (v := .agg #[.int .i64 ((t * t' + d * u * u').tdiv 2), .int .i64 ((t * u' + u * t').tdiv 2)]) (by go_light; simp [results, Try.results62, go_sem, *]) rfl ⟨rfl, ?_⟩
  repeat (first | with_reducible exact Below.refl _ _ | with_reducible assumption | ((with_reducible refine blA ?_ ?_); (focus (first | omega | (simp <;> omega)))) | (with_reducible refine blD ?_) | (with_reducible refine blN ?_) | ((with_reducible refine blS ?_ ?_); (focus (first | omega | (simp <;> omega)))) | ((with_reducible refine blT (by assumption) ?_ ?_); (focus (first | omega | (simp <;> omega)))))
end Go.Proofs.Ytemnkfigjpphgaa
