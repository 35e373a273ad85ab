/-
  The reference's draws of numbers: only that each answers, within what bounds, and turns the cursor's block alone.
-/
import Derived.Test.YtemnkfigjpphgaaCur
namespace Go.Proofs.Ytemnkfigjpphgaa
open Go.RowKit
attribute [local simp, local go_sem] past_cell past_frozen past_tape
theorem Cur.down {m n g : Nat} {w : World} (h : Cur m g w) (hmn : m ≤ n) : Cur n g w := h.mono hmn
theorem below_alloc (w : World) (o : Obj) : Below w.heap.size w (w.alloc o) := (Below.refl _ _).alloc (Nat.le_refl _) o
theorem grown_id (w : World) (row : Option Nat) : w.grownBy w row := grown_of (Below.refl _ _) row
set_option maxHeartbeats 1000000 in
theorem pick_any (m g : Nat) (n : Int) (w : World) (h : Cur m g w) (hm : m ≤ 999000) (hn : 0 ≤ n ∧ n ≤ 1000000000) :
    Calls Try.prog 43 #[.pointer (some ⟨g, 0, none⟩), .int .i64 n] w fun e w' => (∃ x : Int, e = .returned (.int .i64 x) ∧ 0 ≤ x ∧ (x < n ∨ x = 0)) ∧ Cur (m + 2) g w' ∧ w.grownBy w' (some g) := by
  by_cases h1 : n ≤ 1
  · go_enter Try.func43, Try.ntmps43
    go_wp2
    go_ret
    exact ⟨⟨0, rfl, Int.le_refl _, .inr rfl⟩, h.mono (by omega), grown_id _ _⟩
  · have h1' : decide (n ≤ 1) = false := decide_eq_false h1
    by_cases h2 : 200 < n
    · have h2' : decide (200 < n) = true := decide_eq_true h2
      go_enter Try.func43, Try.ntmps43
      go_wp2_with fail
      refine (next_any m g _ h (by omega)).mono ?_
      rintro e1 w1 ⟨⟨x, rfl, x0, x1⟩, k1, g1⟩
      go_wp2_with fail
      refine (next_any (m + 1) g _ k1 (by omega)).mono ?_
      rintro e2 w2 ⟨⟨y, rfl, y0, y1⟩, k2, g2⟩
      have hw : wrap64 (wrap64 (x * 256) + y) = x * 256 + y := by unfold wrap64; omega
      have hr : Int.tmod (x * 256 + y) n = (x * 256 + y) % n := Int.tmod_eq_emod_of_nonneg (by omega)
      have hb0 := Int.emod_nonneg (x * 256 + y) (show n ≠ 0 by omega)
      have hb1 := Int.emod_lt_of_pos (x * 256 + y) (show 0 < n by omega)
      have hn0 : ¬ n = 0 := by omega
      go_wp2_with fail
      go_ret
      exact ⟨⟨_, rfl, hb0, .inl hb1⟩, k2, grown_then g1 g2⟩
    · have h2' : decide (200 < n) = false := decide_eq_false h2
      go_enter Try.func43, Try.ntmps43
      go_wp2_with fail
      refine (next_any m g _ h (by omega)).mono ?_
      rintro e1 w1 ⟨⟨x, rfl, x0, x1⟩, k1, g1⟩
      have hr : Int.tmod x n = x % n := Int.tmod_eq_emod_of_nonneg (by omega)
      have hb0 := Int.emod_nonneg x (show n ≠ 0 by omega)
      have hb1 := Int.emod_lt_of_pos x (show 0 < n by omega)
      have hn0 : ¬ n = 0 := by omega
      go_wp2_with fail
      go_ret
      exact ⟨⟨_, rfl, hb0, .inl hb1⟩, k1.mono (by omega), g1⟩
set_option maxHeartbeats 1000000 in
theorem one_any (m g : Nat) (n : Int) (w : World) (h : Cur m g w) (hm : m ≤ 999000) (hn : 0 ≤ n ∧ n ≤ 1000000000) :
    Calls Try.prog 57 #[.pointer (some ⟨g, 0, none⟩), .int .i64 n] w fun e w' => (∃ x : Bool, e = .returned (.bool x) ∧ True ∧ True) ∧ Cur (m + 2) g w' ∧ w.grownBy w' (some g) := by
  go_enter Try.func57, Try.ntmps57
  go_wp2_with fail
  refine (pick_any _ g _ _ h (by omega) (by omega)).mono ?_
  rintro e1 w1 ⟨⟨x1, rfl, p1, q1⟩, k1, g1⟩
  by_cases c : x1 = 0
  · subst c
    go_wp2
    go_ret
    exact ⟨⟨true, rfl, trivial, trivial⟩, k1, g1⟩
  · have c' : (x1 == 0) = false := by simp [c]
    go_wp2
    go_ret
    exact ⟨⟨_, rfl, trivial, trivial⟩, k1, g1⟩

theorem wrap64_I (n : Int) : I64 (wrap64 n) := by unfold wrap64 I64; omega
def Lst (b n : Nat) (P : Int → Prop) (w : World) : Prop := b < w.heap.size ∧ ∀ i, i < n → ∃ x : Int, w.cell? ⟨b, i, none⟩ = some (.int .i64 x) ∧ P x
theorem lst_new (w : World) (xs : Array Value) (t : TypeId) (n : Nat) (P : Int → Prop) (hn : xs.size = n) (h : ∀ v ∈ xs, ∃ x : Int, v = .int .i64 x ∧ P x) : Lst w.heap.size n P (w.alloc (.cells xs t)) := by
  refine ⟨by simp, fun i hi => ?_⟩
  obtain ⟨x, hx, hp⟩ := h xs[i] (Array.getElem_mem (by omega))
  refine ⟨x, ?_, hp⟩
  rw [← hx]
  simp [hn, hi]
theorem Lst.keep {b n : Nat} {P : Int → Prop} {w w' : World} {row : Option Nat} (h : Lst b n P w) (hg : w.grownBy w' row) (hr : row ≠ some b) : Lst b n P w' := by
  refine ⟨Nat.lt_of_lt_of_le h.1 hg.size, fun i hi => ?_⟩
  obtain ⟨x, hx, hp⟩ := h.2 i hi
  exact ⟨x, by rw [block_cell (hg.block b h.1 (fun e => hr e.symm))]; exact hx, hp⟩
set_option maxHeartbeats 1000000 in
theorem among_any (m g : Nat) (b n cap : Nat) (P : Int → Prop) (w : World) (h : Cur m g w) (hm : m ≤ 999000) (hn : 0 < n ∧ n ≤ 1000) (hl : Lst b n P w) (hb : b ≠ g) :
    Calls Try.prog 42 #[.pointer (some ⟨g, 0, none⟩), .slice (some ⟨b, 0, none⟩) n cap] w fun e w' => (∃ x : Int, e = .returned (.int .i64 x) ∧ P x ∧ True) ∧ Cur (m + 2) g w' ∧ w.grownBy w' (some g) := by
  go_enter Try.func42, Try.ntmps42
  go_wp2_with fail
  refine (pick_any _ g _ _ h (by omega) (by omega)).mono ?_
  rintro e1 w1 ⟨⟨x1, rfl, p1, q1⟩, k1, g1⟩
  obtain ⟨lb, hl1⟩ := hl.keep g1 (fun e => hb (by cases e; rfl))
  obtain ⟨i, rfl⟩ : ∃ i : Nat, x1 = i := ⟨x1.toNat, by omega⟩
  have hi : i < n := by omega
  obtain ⟨x, hx, hp⟩ := hl1 i hi
  have hi' : ((i : Int) < (n : Int)) := by omega
  go_wp2_with fail
  go_ret
  exact ⟨⟨x, rfl, hp, trivial⟩, k1, g1⟩
set_option maxHeartbeats 2000000 in
theorem number_any (m g : Nat) (w : World) (h : Cur m g w) (hm : m ≤ 990000) :
    Calls Try.prog 128 #[.pointer (some ⟨g, 0, none⟩)] w fun e w' => (∃ x : Int, e = .returned (.int .i64 x) ∧ I64 x ∧ True) ∧ Cur (m + 8) g w' ∧ w.grownBy w' (some g) := by
  go_enter Try.func128, Try.ntmps128
  go_wp2_with fail
  refine (pick_any _ g _ _ h (by omega) (by omega)).mono ?_
  rintro e1 w1 ⟨⟨x1, rfl, p1, q1⟩, k1, g1⟩
  by_cases c0 : x1 = 0
  · subst c0
    go_wp2_with fail
    refine (among_any (m + 2) g w1.heap.size 12 12 I64 _ (k1.later (below_alloc _ _)) (by omega) (by omega) (lst_new _ _ _ _ _ rfl ?_) (by have := k1.lt; omega)).mono ?_
    · simp [I64]
    rintro e2 w2 ⟨⟨x2, rfl, p2, q2⟩, k2, g2⟩
    go_wp2_with fail
    go_ret
    exact ⟨⟨_, rfl, p2, trivial⟩, k2.mono (by omega), grown_then g1 (grown_then (grown_of (below_alloc _ _) _) g2)⟩
  by_cases c1 : x1 = 1
  · subst c1
    go_wp2_with fail
    refine (pick_any _ g _ _ k1 (by omega) (by omega)).mono ?_
    rintro e2 w2 ⟨⟨x2, rfl, p2, q2⟩, k2, g2⟩
    go_wp2_with fail
    refine (pick_any _ g _ _ k2 (by omega) (by omega)).mono ?_
    rintro e3 w3 ⟨⟨x3, rfl, p3, q3⟩, k3, g3⟩
    go_wp2_with fail
    refine (pick_any _ g _ _ k3 (by omega) (by omega)).mono ?_
    rintro e4 w4 ⟨⟨x4, rfl, p4, q4⟩, k4, g4⟩
    have hw1 : wrap64 (1 + x3) = 1 + x3 := by unfold wrap64; omega
    go_wp2_with fail
    go_ret
    exact ⟨⟨_, rfl, wrap64_I _, trivial⟩, k4.mono (by omega), grown_then g1 (grown_then g2 (grown_then g3 g4))⟩
  by_cases c2 : x1 = 2
  · subst c2
    go_wp2_with fail
    refine (pick_any _ g _ _ k1 (by omega) (by omega)).mono ?_
    rintro e2 w2 ⟨⟨x2, rfl, p2, q2⟩, k2, g2⟩
    go_wp2_with fail
    refine (pick_any _ g _ _ k2 (by omega) (by omega)).mono ?_
    rintro e3 w3 ⟨⟨x3, rfl, p3, q3⟩, k3, g3⟩
    go_wp2_with fail
    refine (pick_any _ g _ _ k3 (by omega) (by omega)).mono ?_
    rintro e4 w4 ⟨⟨x4, rfl, p4, q4⟩, k4, g4⟩
    have hw1 : wrap64 (1 + x3) = 1 + x3 := by unfold wrap64; omega
    go_wp2_with fail
    go_ret
    exact ⟨⟨_, rfl, wrap64_I _, trivial⟩, k4.mono (by omega), grown_then g1 (grown_then g2 (grown_then g3 g4))⟩
  by_cases c3 : x1 = 3
  · subst c3
    go_wp2_with fail
    refine (pick_any _ g _ _ k1 (by omega) (by omega)).mono ?_
    rintro e2 w2 ⟨⟨x2, rfl, p2, q2⟩, k2, g2⟩
    go_wp2_with fail
    go_ret
    exact ⟨⟨_, rfl, by unfold I64; omega, trivial⟩, k2.mono (by omega), grown_then g1 g2⟩
  by_cases c4 : x1 = 4
  · subst c4
    go_wp2_with fail
    refine (pick_any _ g _ _ k1 (by omega) (by omega)).mono ?_
    rintro e2 w2 ⟨⟨x2, rfl, p2, q2⟩, k2, g2⟩
    go_wp2_with fail
    go_ret
    exact ⟨⟨_, rfl, by unfold I64; omega, trivial⟩, k2.mono (by omega), grown_then g1 g2⟩
  have d0 : (x1 == 0) = false := by simp [c0]
  have d1 : (x1 == 1) = false := by simp [c1]
  have d2 : (x1 == 2) = false := by simp [c2]
  have d3 : (x1 == 3) = false := by simp [c3]
  have d4 : (x1 == 4) = false := by simp [c4]
  clear c0 c1 c2 c3 c4
  go_wp2_with fail
  refine (pick_any _ g _ _ k1 (by omega) (by omega)).mono ?_
  rintro e2 w2 ⟨⟨x2, rfl, p2, q2⟩, k2, g2⟩
  go_wp2_with fail
  go_ret
  exact ⟨⟨_, rfl, by unfold I64; omega, trivial⟩, k2.mono (by omega), grown_then g1 g2⟩
end Go.Proofs.Ytemnkfigjpphgaa
