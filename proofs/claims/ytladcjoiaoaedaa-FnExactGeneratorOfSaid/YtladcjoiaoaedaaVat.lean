/-
  The points at which a definite form has the value 1, as the reference lists them.
-/
import Derived.Test.YtladcjoiaoaedaaVaq
import Derived.Test.YtladcjoiaoaedaaRde
import Derived.Test.YtladcjoiaoaedaaRoot
namespace Go.Proofs.Ytladcjoiaoaedaa
open Go.RowKit
attribute [local simp, local go_sem] past_cell past_frozen past_tape
/-- The form has the value 1 there. -/
def VP (A B d : Int) (z : Int × Int) : Prop := (2 * A * z.1 + B * z.2) * (2 * A * z.1 + B * z.2) - d * (z.2 * z.2) = 4 * A
/-- What the list holds behind so many steps of the outer loops. -/
def VS (A B d : Int) (k j : Nat) (z : Int × Int) : Prop := VP A B d z ∧ (z.2.natAbs < k ∨ (1 ≤ j ∧ z.2 = (k : Int)) ∨ (2 ≤ j ∧ z.2 = -(k : Int)))
def VT (A B d : Int) (k j : Nat) (s v : Int) (i : Nat) (z : Int × Int) : Prop := VS A B d k j z ∨ (z.2 = v ∧ ((1 ≤ i ∧ 2 * A * z.1 + B * v = s) ∨ (2 ≤ i ∧ 2 * A * z.1 + B * v = -s)))
theorem sq_cases {a s : Int} (h : a * a = s * s) : a = s ∨ a = -s := by
  have h1 : (a - s) * (a + s) = 0 := by grind
  rcases Int.mul_eq_zero.1 h1 with h | h
  · exact .inl (by omega)
  · exact .inr (by omega)
theorem vt_done {A B d s : Int} {k j : Nat} {v : Int} (hv : (j = 0 ∧ v = (k : Int)) ∨ (j = 1 ∧ v = -(k : Int))) (hs : s * s = d * (k : Int) * k + 4 * A) (z : Int × Int) : VT A B d k j s v 2 z ↔ VS A B d k (j + 1) z := by
  have hvv : v * v = (k : Int) * k := by rcases hv with ⟨_, rfl⟩ | ⟨_, rfl⟩ <;> grind
  have hd : d * (k : Int) * k = d * (v * v) := by rw [hvv]; grind
  obtain ⟨x, y⟩ := z
  unfold VT VS VP
  simp only
  constructor
  · rintro (⟨h1, h2⟩ | ⟨rfl, h2⟩)
    · exact ⟨h1, by omega⟩
    · refine ⟨?_, by rcases hv with ⟨rfl, rfl⟩ | ⟨rfl, rfl⟩ <;> omega⟩
      have : (2 * A * x + B * y) * (2 * A * x + B * y) = s * s := by
        rcases h2 with ⟨_, h2⟩ | ⟨_, h2⟩
        · rw [h2]
        · rw [h2, Int.neg_mul_neg]
      rw [this, hs, hd]; omega
  · rintro ⟨h1, h2⟩
    by_cases hy : y = v
    · subst hy
      right
      refine ⟨rfl, ?_⟩
      have : (2 * A * x + B * y) * (2 * A * x + B * y) = s * s := by rw [hs, hd]; omega
      rcases sq_cases this with h | h
      · exact .inl ⟨by omega, h⟩
      · exact .inr ⟨by omega, h⟩
    · left
      exact ⟨h1, by rcases hv with ⟨rfl, rfl⟩ | ⟨rfl, rfl⟩ <;> omega⟩
theorem vt_zero {A B d : Int} {k j : Nat} {s v : Int} (z : Int × Int) : VS A B d k j z ↔ VT A B d k j s v 0 z := by
  unfold VT
  constructor
  · exact fun h => .inl h
  · rintro (h | ⟨_, h⟩)
    · exact h
    · omega
theorem vt_yes {A B d : Int} {k j : Nat} {s v : Int} {i : Nat} {t : Int} (hA : 1 ≤ A) (ht : (i = 0 ∧ t = s) ∨ (i = 1 ∧ t = -s)) (hm : (t - B * v).tmod (2 * A) = 0) (z : Int × Int) : VT A B d k j s v (i + 1) z ↔ VT A B d k j s v i z ∨ z = ((t - B * v).tdiv (2 * A), v) := by
  have hx : 2 * A * (t - B * v).tdiv (2 * A) = t - B * v := Int.mul_tdiv_cancel' (Int.dvd_of_tmod_eq_zero hm)
  generalize (t - B * v).tdiv (2 * A) = x at *
  obtain ⟨p, q⟩ := z
  unfold VT
  simp only [Prod.mk.injEq]
  have hu : ∀ p, 2 * A * p + B * v = t → p = x := fun p hp => by
    have e : 2 * A * p = 2 * A * x := by omega
    exact Int.eq_of_mul_eq_mul_left (show 2 * A ≠ 0 by omega) e
  constructor
  · rintro (h | ⟨rfl, h⟩)
    · exact .inl (.inl h)
    · rcases ht with ⟨rfl, rfl⟩ | ⟨rfl, rfl⟩
      · rcases h with ⟨_, h⟩ | ⟨h, _⟩
        · exact .inr ⟨hu p h, rfl⟩
        · omega
      · rcases h with ⟨_, h⟩ | ⟨_, h⟩
        · exact .inl (.inr ⟨rfl, .inl ⟨by omega, h⟩⟩)
        · exact .inr ⟨hu p h, rfl⟩
  · rintro ((h | ⟨rfl, h⟩) | ⟨rfl, rfl⟩)
    · exact .inl h
    · refine .inr ⟨rfl, ?_⟩
      rcases h with ⟨h1, h⟩ | ⟨h1, h⟩
      · exact .inl ⟨by omega, h⟩
      · exact .inr ⟨by omega, h⟩
    · refine .inr ⟨rfl, ?_⟩
      rcases ht with ⟨rfl, rfl⟩ | ⟨rfl, rfl⟩
      · exact .inl ⟨by omega, by omega⟩
      · exact .inr ⟨by omega, by omega⟩
theorem vt_no {A B d : Int} {k j : Nat} {s v : Int} {i : Nat} {t : Int} (ht : (i = 0 ∧ t = s) ∨ (i = 1 ∧ t = -s)) (hm : (t - B * v).tmod (2 * A) ≠ 0) (z : Int × Int) : VT A B d k j s v (i + 1) z ↔ VT A B d k j s v i z := by
  have hn : ∀ p, 2 * A * p + B * v ≠ t := fun p hp => hm (Int.tmod_eq_zero_of_dvd ⟨p, by omega⟩)
  obtain ⟨p, q⟩ := z
  unfold VT
  simp only
  constructor
  · rintro (h | ⟨rfl, h⟩)
    · exact .inl h
    · refine .inr ⟨rfl, ?_⟩
      rcases ht with ⟨rfl, rfl⟩ | ⟨rfl, rfl⟩
      · rcases h with ⟨_, h⟩ | ⟨h, _⟩
        · exact (hn p h).elim
        · omega
      · rcases h with ⟨_, h⟩ | ⟨_, h⟩
        · exact .inl ⟨by omega, h⟩
        · exact (hn p h).elim
  · rintro (h | ⟨rfl, h⟩)
    · exact .inl h
    · refine .inr ⟨rfl, ?_⟩
      rcases h with ⟨h1, h⟩ | ⟨h1, h⟩
      · exact .inl ⟨by omega, h⟩
      · exact .inr ⟨by omega, h⟩
theorem vs_next {A B d : Int} {k : Nat} (z : Int × Int) : VS A B d k 2 z ↔ VS A B d (k + 1) 0 z := by
  unfold VS
  constructor
  · rintro ⟨h1, h2⟩; exact ⟨h1, by omega⟩
  · rintro ⟨h1, h2⟩; exact ⟨h1, by omega⟩
theorem vs_skip {A B d : Int} {k : Nat} (h : ∀ t : Int, t * t ≠ d * (k : Int) * k + 4 * A) (z : Int × Int) : VS A B d k 0 z ↔ VS A B d (k + 1) 0 z := by
  unfold VS
  constructor
  · rintro ⟨h1, h2⟩; exact ⟨h1, by omega⟩
  · rintro ⟨h1, h2⟩
    refine ⟨h1, ?_⟩
    by_cases hk : z.2.natAbs = k
    · exfalso
      refine h (2 * A * z.1 + B * z.2) ?_
      have e : z.2 * z.2 = (k : Int) * k := by
        have := Int.natAbs_mul_self (a := z.2)
        rw [← this, hk]
        push_cast
        rfl
      unfold VP at h1
      rw [e] at h1
      have : d * ((k : Int) * k) = d * (k : Int) * k := by grind
      omega
    · omega
theorem vs_end {A B d : Int} {k : Nat} (hd : d < 0) (h : 4 * A < -d * (k : Int) * k) (z : Int × Int) : VS A B d k 0 z ↔ VP A B d z := by
  unfold VS
  constructor
  · exact fun h => h.1
  · intro h1
    refine ⟨h1, .inl ?_⟩
    refine Nat.lt_of_not_le fun hle => ?_
    unfold VP at h1
    have e0 : 0 ≤ (2 * A * z.1 + B * z.2) * (2 * A * z.1 + B * z.2) := sq_nn _
    have e1 : (k : Int) * k ≤ z.2 * z.2 := by
      have h2 := Int.natAbs_mul_self (a := z.2)
      have h3 : k * k ≤ z.2.natAbs * z.2.natAbs := Nat.mul_le_mul hle hle
      have h4 : ((k * k : Nat) : Int) ≤ ((z.2.natAbs * z.2.natAbs : Nat) : Int) := Int.ofNat_le.2 h3
      push_cast at h4
      push_cast at h2
      omega
    have e2 : -d * ((k : Int) * k) ≤ -d * (z.2 * z.2) := Int.mul_le_mul_of_nonneg_left e1 (by omega)
    have e3 : -d * (k : Int) * k = -d * ((k : Int) * k) := by grind
    have e4 : -d * (z.2 * z.2) = -(d * (z.2 * z.2)) := by grind
    omega
theorem vaHas_row (l : List (Int × Int)) (x y : Int) (v : Value) (B : Nat) (w : World) (hr : Rw B 67 2 c2 w v l) (hl : l.length ≤ 10000) :
    Calls Try.prog 88 #[v, .agg #[.int .i64 x, .int .i64 y]] w fun en w' => en = .returned (.bool (decide ((x, y) ∈ l))) ∧ Below w.heap.size w w' := by
  obtain ⟨a, cap, hv, hc, hm, hs⟩ := hr.sees c2_len
  rw [hv]
  exact vaHas_any l (x, y) a cap B w hs (by omega)
set_option maxRecDepth 100000 in
set_option maxHeartbeats 20000000 in
theorem vaAt_any (A B C d : Int) (w : World) (hA : 1 ≤ A ∧ A ≤ 10000) (hB : Bd 20000 B) (hC : Bd 500000000 C) (hd : B * B - 4 * A * C = d) (d1 : -2000 ≤ d) (d2 : d ≤ -3) :
    Calls Try.prog 59 #[.agg #[.int .i64 A, .int .i64 B, .int .i64 C], .int .i64 1] w fun en w' => (∃ v l, en = .returned v ∧ Rw w.heap.size 67 2 c2 w' v l ∧ l.length ≤ 1000 ∧ ∀ z, z ∈ l ↔ VP A B d z) ∧ Below w.heap.size w w' := by
  obtain ⟨A1, A2⟩ := hA
  obtain ⟨B1, B2⟩ := hB
  obtain ⟨C1, C2⟩ := hC
  have hdw : discW A B C = d := by
    obtain ⟨x1, x2⟩ := mul_bd (show Bd 20000 B from ⟨B1, B2⟩) (show Bd 20000 B from ⟨B1, B2⟩) (show (20000 : Int) * 20000 ≤ 400000000 by decide)
    unfold discW
    rw [wS (x := 4 * A) ⟨by omega, by omega⟩, wS (x := B * B) ⟨by omega, by omega⟩, wS (x := 4 * A * C) ⟨by omega, by omega⟩, wS ⟨by omega, by omega⟩]
    exact hd
  have hdc : Hid (∀ w0, Calls Try.prog 86 #[.agg #[.int .i64 A, .int .i64 B, .int .i64 C]] w0 fun en w' => en = .returned (.int .i64 d) ∧ Below w0.heap.size w0 w') := Lib.hid fun w0 => by have h := foDisc_any A B C w0; rwa [hdw] at h
  clear hdw hd C1 C2
  have hw4 : wrap64 (4 * A) = 4 * A := by unfold wrap64; omega
  have hw41 : wrap64 (4 * A * 1) = 4 * A := by unfold wrap64; omega
  have hw2 : wrap64 (2 * A) = 2 * A := by unfold wrap64; omega
  have hwd : wrap64 (-d) = -d := by unfold wrap64; omega
  have hz2 : ¬ 2 * A = 0 := by omega
  go_enter Try.func59, Try.ntmps59
  go_wp2_with fail
  refine (hdc.out _).mono ?_
  rintro e0 w0 ⟨rfl, hB0⟩
  have hf0 := (Blk.new w 58 #[.int .i64 A, .int .i64 B, .int .i64 C]).below hB0
  have hb0 : Below w.heap.size w w0 := by repeat (first | with_reducible exact Below.refl _ _ | with_reducible assumption | ((with_reducible refine blA ?_ ?_); (focus (first | omega | (simp <;> omega)))) | (with_reducible refine blD ?_) | (with_reducible refine blN ?_) | ((with_reducible refine blS ?_ ?_); (focus (first | omega | (simp <;> omega)))) | ((with_reducible refine blT (by assumption) ?_ ?_); (focus (first | omega | (simp <;> omega)))))
  have HF0 := Lib.hid hf0
  have HB0 := Lib.hid hb0
  clear hB0 hf0 hb0
  go_wp2_with fail
  go_loopw [6, 7] (fun v i wr => ∃ (k : Nat) (l : List (Int × Int)), i = .int .i64 (k : Int) ∧ k ≤ 120 ∧ Hid (Rw (w.heap.size + 1) 67 2 c2 wr v l) ∧ Hid (l.length ≤ 4 * k ∧ ∀ z, z ∈ l ↔ VS A B d k 0 z) ∧ Hid (Blk w.heap.size 58 #[.int .i64 A, .int .i64 B, .int .i64 C] wr) ∧ Hid (Below w.heap.size w wr)) (fun _ i _ => 121 - (intOf i).toNat)
  case atStart =>
    refine ⟨0, [], rfl, by omega, Lib.hid (Rw.nil _ _ _ _ _), Lib.hid ⟨by simp, fun z => ?_⟩, HF0, HB0⟩
    unfold VS
    constructor
    · intro h; cases h
    · rintro ⟨_, h⟩; omega
  case round =>
    obtain ⟨k, l, rfl, hk, hR, hL, hF, hBl⟩ := hrel
    clear HF0 HB0
    have cf := hF.out.cell
    have lf := hF.out.lt
    have hbz := hBl.out.size
    obtain ⟨kk1, kk2⟩ := mul_bd (show Bd 2000 d from ⟨by omega, by omega⟩) (show Bd 120 (k : Int) from ⟨by omega, by omega⟩) (show (2000 : Int) * 120 ≤ 240000 by decide)
    obtain ⟨kk3, kk4⟩ := mul_bd (show Bd 240000 (d * (k : Int)) from ⟨kk1, kk2⟩) (show Bd 120 (k : Int) from ⟨by omega, by omega⟩) (show (240000 : Int) * 120 ≤ 28800000 by decide)
    have en1 : -d * (k : Int) = -(d * (k : Int)) := Int.neg_mul _ _
    have en2 : -d * (k : Int) * k = -(d * (k : Int) * k) := by rw [en1, Int.neg_mul]
    have hwk1 : wrap64 (-d * (k : Int)) = -d * (k : Int) := by rw [en1]; unfold wrap64; omega
    have hwk2 : wrap64 (-d * (k : Int) * k) = -d * (k : Int) * k := by rw [en2]; unfold wrap64; omega
    have hwk3 : wrap64 (d * (k : Int)) = d * (k : Int) := by unfold wrap64; omega
    have hwk4 : wrap64 (d * (k : Int) * k) = d * (k : Int) * k := by unfold wrap64; omega
    cases hcond : decide (-d * (k : Int) * k ≤ 4 * A) with
    | false =>
      have hc := of_decide_eq_false hcond
      have HFIN := Lib.hid (fun z => (hL.out.2 z).trans (vs_end (by omega) (by omega) z))
      have HLEN := Lib.hid hL.out.1
      clear hc en1 en2 kk1 kk2 kk3 kk4
      go_wp2_with fail
      go_ret
      exact ⟨⟨_, l, rfl, hR.out.mono (by omega), by have := HLEN.out; omega, HFIN.out⟩, hBl.out⟩
    | true =>
      have hc := of_decide_eq_true hcond
      have hk115 : k ≤ 116 := by
        refine Nat.le_of_not_lt fun hlt => ?_
        have e1 : (117 : Int) * 117 ≤ (k : Int) * k := Int.mul_le_mul (by omega) (by omega) (by omega) (by omega)
        have e2 : 3 * ((k : Int) * k) ≤ -d * ((k : Int) * k) := Int.mul_le_mul_of_nonneg_right (by omega) (by omega)
        have e3 : -d * (k : Int) * k = -d * ((k : Int) * k) := Int.mul_assoc _ _ _
        omega
      obtain ⟨n0, hn0⟩ : ∃ n0, d * (k : Int) * k + 4 * A = n0 := ⟨_, rfl⟩
      have hn0b : 0 ≤ n0 ∧ n0 ≤ 40000 := by
        have : 0 ≤ -d * ((k : Int) * k) := Int.mul_nonneg (by omega) (Int.mul_nonneg (by omega) (by omega))
        have e3 : -d * (k : Int) * k = -d * ((k : Int) * k) := Int.mul_assoc _ _ _
        omega
      obtain ⟨s0, s1, s2⟩ := isqrt_spec hn0b.1
      have hroot : Hid (∀ w1, Calls Try.prog 87 #[.int .i64 n0] w1 fun en w' => en = .returned (.int .i64 (isqrt n0)) ∧ w1 = w') := Lib.hid fun w1 => nuRoot_any n0 w1 hn0b.1 (by omega)
      have hnsq : Hid (isqrt n0 * isqrt n0 ≠ n0 → ∀ t : Int, t * t ≠ d * (k : Int) * k + 4 * A) := Lib.hid (by
        intro hne t ht
        rw [hn0] at ht
        apply hne
        have hq : isqrt n0 = (t.natAbs : Int) := isqrt_unique (by omega) (by rw [Int.natAbs_mul_self']; omega) (by
          have e := Int.natAbs_mul_self' t
          have e2 : ((t.natAbs : Int) + 1) * ((t.natAbs : Int) + 1) = (t.natAbs : Int) * (t.natAbs : Int) + 2 * (t.natAbs : Int) + 1 := by grind
          omega)
        rw [hq, Int.natAbs_mul_self', ht])
      have hs200 : isqrt n0 ≤ 200 := by
        refine Int.le_of_not_gt fun hlt => ?_
        have := Int.mul_le_mul (show (201 : Int) ≤ isqrt n0 by omega) (show (201 : Int) ≤ isqrt n0 by omega) (by omega) s0
        omega
      generalize isqrt n0 = s at *
      obtain ⟨ss1, ss2⟩ := mul_bd (show Bd 200 s from ⟨by omega, by omega⟩) (show Bd 200 s from ⟨by omega, by omega⟩) (show (200 : Int) * 200 ≤ 40000 by decide)
      have hwss : wrap64 (s * s) = s * s := by unfold wrap64; omega
      have hwk5 : wrap64 (d * (k : Int) * k + 4 * A) = n0 := by rw [← hn0]; unfold wrap64; omega
      have hwn0 : wrap64 n0 = n0 := by unfold wrap64; omega
      have HN0 := Lib.hid hn0
      clear hc en1 en2 kk1 kk2 kk3 kk4 hn0 s2
      cases hsq : decide (s * s = n0) with
      | false =>
        have hne := of_decide_eq_false hsq
        have HNX := Lib.hid (show l.length ≤ 4 * (k + 1) ∧ ∀ z, z ∈ l ↔ VS A B d (k + 1) 0 z from ⟨by have := hL.out.1; omega, fun z => (hL.out.2 z).trans (vs_skip (hnsq.out hne) z)⟩)
        have hne2 : (s * s != n0) = true := by simp [hne]
        clear hne
        have hn0v := HN0.out
        go_wp2_with fail
        refine (hroot.out _).mono ?_
        rintro e1 w1 ⟨rfl, rfl⟩
        clear hsq s1 ss1 ss2 hs200 hn0b hroot hwk1 hwk2
        go_wp2_with fail
        go_roundw
        case rel =>
          go_light
          exact ⟨k + 1, l, by go_num, by omega, hR, HNX, hF, hBl⟩
        case measure => simp [intOf]; omega
      | true =>
        have heq := of_decide_eq_true hsq
        have hsq' : (s * s != n0) = false := by simp [heq]
        have HEQ : Hid (s * s = d * (k : Int) * k + 4 * A) := Lib.hid (by rw [heq, HN0.out])
        have hwn : wrap64 (-(k : Int)) = -(k : Int) := by unfold wrap64; omega
        have hwns : wrap64 (-s) = -s := by unfold wrap64; omega
        clear heq
        have hn0v := HN0.out
        go_wp2_with fail
        refine (hroot.out _).mono ?_
        rintro e1 w1 ⟨rfl, rfl⟩
        clear hsq s1 ss1 ss2 hn0b hroot hwk1 hwk2
        obtain ⟨y1, ey1, KV, KF1, KR1, KB1⟩ : ∃ y1, wr.alloc (.cells #[.int .i64 (k : Int), .int .i64 (-(k : Int))] 3) = y1 ∧ Hid (Blk wr.heap.size 3 #[.int .i64 (k : Int), .int .i64 (-(k : Int))] y1) ∧ Hid (Blk w.heap.size 58 #[.int .i64 A, .int .i64 B, .int .i64 C] y1) ∧ Hid (Rw (w.heap.size + 1) 67 2 c2 y1 u6 l) ∧ Hid (Below w.heap.size w y1) :=
          ⟨_, rfl, Lib.hid (Blk.new _ _ _), Lib.hid (hF.out.alloc _), Lib.hid (hR.out.alloc _), Lib.hid (hBl.out.alloc hbz _)⟩
        have hbv0 : w.heap.size < wr.heap.size := lf
        obtain ⟨bv, hbv⟩ : ∃ bv, wr.heap.size = bv := ⟨_, rfl⟩
        rw [hbv] at KV hbv0
        clear hR hF hBl hbz
        go_wp2_with fail
        try rw [ey1]
        clear cf lf
        clear ey1 hn0v hwk3 hwk4 hwk5 hwn0 hsq' hwss
        go_loopw [6, 62] (fun v jv wr => ∃ (j : Nat) (l : List (Int × Int)), jv = .int .i64 (j : Int) ∧ j ≤ 2 ∧ Hid (Rw (w.heap.size + 1) 67 2 c2 wr v l) ∧ Hid (l.length ≤ 4 * k + 2 * j ∧ ∀ z, z ∈ l ↔ VS A B d k j z) ∧ Hid (Blk bv 3 #[.int .i64 (k : Int), .int .i64 (-(k : Int))] wr) ∧ Hid (Blk w.heap.size 58 #[.int .i64 A, .int .i64 B, .int .i64 C] wr) ∧ Hid (Below w.heap.size w wr)) (fun _ jv _ => 3 - (intOf jv).toNat)
        case atStart =>
          exact ⟨0, l, rfl, by omega, KR1, Lib.hid ⟨by have := hL.out.1; omega, hL.out.2⟩, KV, KF1, KB1⟩
        case round =>
          clear KR1 KV KF1 KB1 hL
          obtain ⟨j, l, rfl, hj, hR, hL, hV, hF, hBl⟩ := hrel
          obtain ⟨wo, hwo⟩ : ∃ wo : World, wo = wr := ⟨_, rfl⟩
          subst hwo
          have cv := hV.out.cell
          have lv := hV.out.lt
          have hbz := hBl.out.size
          by_cases hj2 : j < 2
          · have hj2' : (j : Int) < 2 := by omega
            obtain ⟨v0, hv0, hvv⟩ : ∃ v0 : Int, wo.cell? ⟨bv, j, none⟩ = some (.int .i64 v0) ∧ Hid ((j = 0 ∧ v0 = (k : Int)) ∨ (j = 1 ∧ v0 = -(k : Int))) := by
              rcases (show j = 0 ∨ j = 1 by omega) with rfl | rfl
              · exact ⟨(k : Int), by rw [cv]; rfl, Lib.hid (.inl ⟨rfl, rfl⟩)⟩
              · exact ⟨-(k : Int), by rw [cv]; rfl, Lib.hid (.inr ⟨rfl, rfl⟩)⟩
            have hvb : -120 ≤ v0 ∧ v0 ≤ 120 := by have := hvv.out; omega
            clear cv
            go_wp2_with fail
            obtain ⟨y2, ey2, KS, KV2, KF2, KR2, KB2⟩ : ∃ y2, wo.alloc (.cells #[.int .i64 s, .int .i64 (-s)] 3) = y2 ∧ Hid (Blk wo.heap.size 3 #[.int .i64 s, .int .i64 (-s)] y2) ∧ Hid (Blk bv 3 #[.int .i64 (k : Int), .int .i64 (-(k : Int))] y2) ∧ Hid (Blk w.heap.size 58 #[.int .i64 A, .int .i64 B, .int .i64 C] y2) ∧ Hid (Rw (w.heap.size + 1) 67 2 c2 y2 u6 l) ∧ Hid (Below w.heap.size w y2) :=
              ⟨_, rfl, Lib.hid (Blk.new _ _ _), Lib.hid (hV.out.alloc _), Lib.hid (hF.out.alloc _), Lib.hid (hR.out.alloc _), Lib.hid (hBl.out.alloc hbz _)⟩
            have KL : Hid (l.length ≤ 4 * k + 2 * j + 0 ∧ ∀ z, z ∈ l ↔ VT A B d k j s v0 0 z) := Lib.hid ⟨by have := hL.out.1; omega, fun z => (hL.out.2 z).trans (vt_zero z)⟩
            have HT2 : Hid ((j = 0 ∧ v0 = (k : Int)) ∨ (j = 1 ∧ v0 = -(k : Int))) := hvv
            have hbs0 : bv < wo.heap.size := lv
            obtain ⟨bs, hbs⟩ : ∃ bs, wo.heap.size = bs := ⟨_, rfl⟩
            rw [hbs] at KS hbs0
            try rw [ey2]
            clear ey2 hR hV hF hBl hL hbz lv hvv hv0
            go_loopw [6, 71] (fun v iv wr => ∃ (i : Nat) (l : List (Int × Int)), iv = .int .i64 (i : Int) ∧ i ≤ 2 ∧ Hid (Rw (w.heap.size + 1) 67 2 c2 wr v l) ∧ Hid (l.length ≤ 4 * k + 2 * j + i ∧ ∀ z, z ∈ l ↔ VT A B d k j s v0 i z) ∧ Hid (Blk bs 3 #[.int .i64 s, .int .i64 (-s)] wr) ∧ Hid (Blk bv 3 #[.int .i64 (k : Int), .int .i64 (-(k : Int))] wr) ∧ Hid (Blk w.heap.size 58 #[.int .i64 A, .int .i64 B, .int .i64 C] wr) ∧ Hid (Below w.heap.size w wr)) (fun _ iv _ => 3 - (intOf iv).toNat)
            case atStart =>
              exact ⟨0, l, rfl, by omega, KR2, KL, KS, KV2, KF2, KB2⟩
            case round =>
              clear KR2 KL KS KV2 KF2 KB2
              obtain ⟨i, l, rfl, hi, hR, hL, hS, hV, hF, hBl⟩ := hrel
              obtain ⟨wo, hwo⟩ : ∃ wo : World, wo = wr := ⟨_, rfl⟩
              subst hwo
              have cs := hS.out.cell
              have ls := hS.out.lt
              have cf := hF.out.cell
              have lf := hF.out.lt
              have hbz := hBl.out.size
              by_cases hi2 : i < 2
              · have hi2' : (i : Int) < 2 := by omega
                obtain ⟨t, ht, htt⟩ : ∃ t : Int, wo.cell? ⟨bs, i, none⟩ = some (.int .i64 t) ∧ Hid ((i = 0 ∧ t = s) ∨ (i = 1 ∧ t = -s)) := by
                  rcases (show i = 0 ∨ i = 1 by omega) with rfl | rfl
                  · exact ⟨s, by rw [cs]; rfl, Lib.hid (.inl ⟨rfl, rfl⟩)⟩
                  · exact ⟨-s, by rw [cs]; rfl, Lib.hid (.inr ⟨rfl, rfl⟩)⟩
                have htb : -200 ≤ t ∧ t ≤ 200 := by have := htt.out; omega
                clear cs
                obtain ⟨b1, b2⟩ := mul_bd (show Bd 20000 B from ⟨B1, B2⟩) (show Bd 120 v0 from hvb) (show (20000 : Int) * 120 ≤ 2400000 by decide)
                have hwb : wrap64 (B * v0) = B * v0 := by unfold wrap64; omega
                have hwt : wrap64 (t - B * v0) = t - B * v0 := by unfold wrap64; omega
                obtain ⟨q1, q2⟩ := tdiv_bd (2 * A) (show Bd 2400200 (t - B * v0) from ⟨by omega, by omega⟩)
                have hwq : wrap64 ((t - B * v0).tdiv (2 * A)) = (t - B * v0).tdiv (2 * A) := by unfold wrap64; omega
                have hwm : wrap64 ((t - B * v0).tmod (2 * A)) = (t - B * v0).tmod (2 * A) := by
                  have := Int.natAbs_tmod (t - B * v0) (2 * A)
                  have h2 := Nat.mod_le (t - B * v0).natAbs (2 * A).natAbs
                  unfold wrap64; omega
                clear b1 b2 q1 q2
                by_cases hm : (t - B * v0).tmod (2 * A) = 0
                · have hm' : ((t - B * v0).tmod (2 * A) == 0) = true := by simp [hm]
                  have hm2 : decide ((t - B * v0).tmod (2 * A) = 0) = true := decide_eq_true hm
                  go_wp2_with fail
                  generalize hxq : (t - B * v0).tdiv (2 * A) = x at *
                  obtain ⟨y3, ey3, KP, KS3, KV3, KF3, KR3, KB3⟩ : ∃ y3, wo.alloc (.cells #[.int .i64 x, .int .i64 v0] 67) = y3 ∧ Hid (Blk wo.heap.size 67 #[.int .i64 x, .int .i64 v0] y3) ∧ Hid (Blk bs 3 #[.int .i64 s, .int .i64 (-s)] y3) ∧ Hid (Blk bv 3 #[.int .i64 (k : Int), .int .i64 (-(k : Int))] y3) ∧ Hid (Blk w.heap.size 58 #[.int .i64 A, .int .i64 B, .int .i64 C] y3) ∧ Hid (Rw (w.heap.size + 1) 67 2 c2 y3 u6 l) ∧ Hid (Below w.heap.size w y3) :=
                    ⟨_, rfl, Lib.hid (Blk.new _ _ _), Lib.hid (hS.out.alloc _), Lib.hid (hV.out.alloc _), Lib.hid (hF.out.alloc _), Lib.hid (hR.out.alloc _), Lib.hid (hBl.out.alloc hbz _)⟩
                  rw [ey3]
                  have HLT := Lib.hid (show wo.heap.size < y3.heap.size from KP.out.lt)
                  have HWB := Lib.hid (show w.heap.size ≤ y3.heap.size from KB3.out.size)
                  have HP : Hid (∀ z, VT A B d k j s v0 (i + 1) z ↔ VT A B d k j s v0 i z ∨ z = (x, v0)) := Lib.hid fun z => by have := vt_yes (d := d) (k := k) (j := j) A1 htt.out hm z; rwa [hxq] at this
                  have hlen : Hid (l.length ≤ 1000) := Lib.hid (by have := hL.out.1; omega)
                  clear hR hS hV hF hBl hbz ey3 hwb hwt hwq hwm hm hm' hm2 cf lf ls ht
                  refine (vaHas_row l x v0 _ _ _ KR3.out (by have := hlen.out; omega)).mono ?_
                  rintro e4 w4 ⟨rfl, hB4⟩
                  have kP := Lib.hid (KP.out.below hB4)
                  have kS := Lib.hid (KS3.out.below hB4)
                  have kV := Lib.hid (KV3.out.below hB4)
                  have kF := Lib.hid (KF3.out.below hB4)
                  have kR := Lib.hid (KR3.out.later hB4)
                  have kB := Lib.hid (show Below w.heap.size w w4 from KB3.out.trans (hB4.mono HWB.out))
                  have cp := kP.out.cell
                  have lp := kP.out.lt
                  have hl1 : Hid (l.length ≤ 4 * k + 2 * j + i) := Lib.hid hL.out.1
                  have hl2 : Hid (∀ z, z ∈ l ↔ VT A B d k j s v0 i z) := Lib.hid hL.out.2
                  clear KP KS3 KV3 KF3 KR3 KB3 hB4 HLT HWB hL
                  cases hmem : decide ((x, v0) ∈ l) with
                  | true =>
                    have HNX := Lib.hid (show l.length ≤ 4 * k + 2 * j + (i + 1) ∧ ∀ z, z ∈ l ↔ VT A B d k j s v0 (i + 1) z from ⟨by have := hl1.out; omega, fun z => (by
                      rw [HP.out z, hl2.out z]
                      constructor
                      · exact fun h => .inl h
                      · rintro (h | rfl)
                        · exact h
                        · exact (hl2.out _).1 (of_decide_eq_true hmem))⟩)
                    clear hmem cp lp hxq hbv hbs hw4 hw41 hw2 hwd hz2 hwn hwns hcond HN0 hnsq
                    go_wp2_with fail
                    go_roundw
                    case rel =>
                      go_light
                      exact ⟨i + 1, l, by go_num, by omega, kR, HNX, kS, kV, kF, kB⟩
                    case measure => simp [intOf]; omega
                  | false =>
                    clear hmem lp hxq hbv hbs hw4 hw41 hw2 hwd hz2 hwn hwns hcond HN0 hnsq
                    go_wp2_with fail
                    refine (vaPut_any l x v0 _ _ _ kR.out (by have := hlen.out; omega)).mono ?_
                    rintro e5 w5 ⟨⟨v5, l5, rfl, hr5, hn5, hm5⟩, hB5⟩
                    have hwb5 := kB.out.size
                    have mS := Lib.hid (kS.out.below hB5)
                    have mV := Lib.hid (kV.out.below hB5)
                    have mF := Lib.hid (kF.out.below hB5)
                    have mR := Lib.hid (hr5.mono (show w.heap.size + 1 ≤ w4.heap.size by have := kF.out.lt; omega))
                    have mB := Lib.hid (show Below w.heap.size w w5 from kB.out.trans (hB5.mono hwb5))
                    have HNX := Lib.hid (show l5.length ≤ 4 * k + 2 * j + (i + 1) ∧ ∀ z, z ∈ l5 ↔ VT A B d k j s v0 (i + 1) z from ⟨by have := hl1.out; omega, fun z => (by rw [HP.out z, hm5 z, hl2.out z])⟩)
                    clear kP kS kV kF kR kB cp hr5 hn5 hm5 hB5 hwb5
                    go_wp2_with fail
                    go_roundw
                    case rel =>
                      go_light
                      exact ⟨i + 1, l5, by go_num, by omega, mR, HNX, mS, mV, mF, mB⟩
                    case measure => simp [intOf]; omega
                · have hm' : ((t - B * v0).tmod (2 * A) == 0) = false := by simp [hm]
                  have hm2 : decide ((t - B * v0).tmod (2 * A) = 0) = false := decide_eq_false hm
                  have HNX := Lib.hid (show l.length ≤ 4 * k + 2 * j + (i + 1) ∧ ∀ z, z ∈ l ↔ VT A B d k j s v0 (i + 1) z from ⟨by have := hL.out.1; omega, fun z => (hL.out.2 z).trans (vt_no htt.out hm z).symm⟩)
                  go_wp2_with fail
                  go_roundw
                  case rel =>
                    go_light
                    exact ⟨i + 1, l, by go_num, by omega, hR, HNX, hS, hV, hF, hBl⟩
                  case measure => simp [intOf]; omega
              · have hi2' : ¬ (i : Int) < 2 := by omega
                have HNX := Lib.hid (show l.length ≤ 4 * k + 2 * (j + 1) ∧ ∀ z, z ∈ l ↔ VS A B d k (j + 1) z from ⟨by have := hL.out.1; omega, fun z => by
                  have hi : i = 2 := by omega
                  have := hL.out.2 z
                  rw [hi] at this
                  exact this.trans (vt_done HT2.out HEQ.out z)⟩)
                clear cs cf lf ls
                go_wp2_with fail
                go_roundw
                case rel =>
                  go_light
                  exact ⟨j + 1, l, by go_num, by omega, hR, HNX, hV, hF, hBl⟩
                case measure => simp [intOf]; omega
          · have hj2' : ¬ (j : Int) < 2 := by omega
            have HNX := Lib.hid (show l.length ≤ 4 * (k + 1) ∧ ∀ z, z ∈ l ↔ VS A B d (k + 1) 0 z from ⟨by have := hL.out.1; omega, fun z => by
              have hj : j = 2 := by omega
              have := hL.out.2 z
              rw [hj] at this
              exact this.trans (vs_next z)⟩)
            clear cv
            go_wp2_with fail
            go_roundw
            case rel =>
              go_light
              exact ⟨k + 1, l, by go_num, by omega, hR, HNX, hF, hBl⟩
            case measure => simp [intOf]; omega
end Go.Proofs.Ytladcjoiaoaedaa
