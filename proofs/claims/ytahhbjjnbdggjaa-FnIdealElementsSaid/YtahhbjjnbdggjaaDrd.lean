/-
  The reference's draws of discriminants and small numbers.
-/
import Derived.Test.YtahhbjjnbdggjaaDrw
import Derived.Test.YtahhbjjnbdggjaaDisc
namespace Go.Proofs.Ytahhbjjnbdggjaa
open Go.RowKit
attribute [local simp, local go_sem] past_cell past_frozen past_tape
set_option maxHeartbeats 1000000 in
theorem small_any (m g : Nat) (w : World) (h : Cur m g w) (hm : m ≤ 900000) :
    Calls Try.prog 58 #[.pointer (some ⟨g, 0, none⟩)] w fun e w' => (∃ x : Int, e = .returned (.int .i64 x) ∧ I64 x ∧ True) ∧ Cur (m + 10) g w' ∧ w.grownBy w' (some g) := by
  go_enter Try.func58, Try.ntmps58
  go_wp2_with fail
  refine (one_any _ g _ _ h (by omega) (by omega)).mono ?_
  rintro e1 w1 ⟨⟨x1, rfl, p1, q1⟩, k1, g1⟩
  cases x1 with
  | true =>
    go_wp2_with fail
    refine (number_any _ g _ k1 (by omega)).mono ?_
    rintro e2 w2 ⟨⟨x2, rfl, p2, q2⟩, k2, g2⟩
    go_wp2_with fail
    go_ret
    exact ⟨⟨_, rfl, p2, trivial⟩, k2.mono (by omega), grown_then g1 g2⟩
  | false =>
    go_wp2_with fail
    refine (pick_any _ g _ _ k1 (by omega) (by omega)).mono ?_
    rintro e2 w2 ⟨⟨x2, rfl, p2, q2⟩, k2, g2⟩
    go_wp2_with fail
    go_ret
    exact ⟨⟨_, rfl, by unfold I64; omega, trivial⟩, k2.mono (by omega), grown_then g1 g2⟩
set_option maxRecDepth 100000 in
set_option maxHeartbeats 4000000 in
theorem discDraw_any (m g : Nat) (w : World) (h : Cur m g w) (hm : m ≤ 900000) :
    Calls Try.prog 55 #[.pointer (some ⟨g, 0, none⟩)] w fun e w' => (∃ x : Int, e = .returned (.int .i64 x) ∧ I64 x ∧ True) ∧ Cur (m + 10) g w' ∧ w.grownBy w' (some g) := by
  go_enter Try.func55, Try.ntmps55
  go_wp2_with fail
  refine (pick_any _ g _ _ h (by omega) (by omega)).mono ?_
  rintro e1 w1 ⟨⟨x1, rfl, p1, q1⟩, k1, g1⟩
  by_cases c0 : x1 = 0
  · subst c0
    go_wp2_with fail
    refine (among_any (m + 2) g w1.heap.size 17 17 I64 _ (kA k1) (by omega) (by omega) (lst_new _ _ _ _ _ rfl ?_) (by have := k1.lt; omega)).mono ?_
    · simp [I64]
    rintro e2 w2 ⟨⟨x2, rfl, p2, q2⟩, k2, g2⟩
    go_wp2_with fail
    go_ret
    exact ⟨⟨_, rfl, p2, trivial⟩, k2.mono (by omega), grown_then g1 (grown_then (grown_of (below_alloc _ _) _) g2)⟩
  by_cases c1 : x1 = 1
  · subst c1
    go_wp2_with fail
    refine (pick_any _ g _ _ k1 (by omega) (by omega)).mono ?_
    rintro e2 w2 ⟨⟨x2, rfl, p2, q2⟩, k2, g2⟩
    have hw2 : wrap64 (-3 - x2) = -3 - x2 := by unfold wrap64; omega
    go_wp2_with fail
    refine (nuMod_any (-3 - x2) 4 _ ⟨by omega, by omega⟩ (by omega) (by omega)).mono ?_
    rintro e3 w3 ⟨rfl, rfl⟩
    by_cases cm : 1 < (-3 - x2) % 4
    · have cm' : decide (1 < (-3 - x2) % 4) = true := decide_eq_true cm
      have hw3 : wrap64 (-3 - x2 - 2) = -3 - x2 - 2 := by unfold wrap64; omega
      go_wp2_with fail
      refine (l1Most_any _ _ _).mono ?_
      rintro e4 w4 ⟨rfl, rfl⟩
      go_wp2_with fail
      go_ret
      exact ⟨⟨_, rfl, by unfold I64; omega, trivial⟩, k2.mono (by omega), grown_then g1 g2⟩
    · have cm' : decide (1 < (-3 - x2) % 4) = false := decide_eq_false cm
      go_wp2_with fail
      go_ret
      exact ⟨⟨_, rfl, ⟨by omega, by omega⟩, trivial⟩, k2.mono (by omega), grown_then g1 g2⟩
  by_cases c2 : x1 = 2
  · subst c2
    go_wp2_with fail
    refine (pick_any _ g _ _ k1 (by omega) (by omega)).mono ?_
    rintro e2 w2 ⟨⟨x2, rfl, p2, q2⟩, k2, g2⟩
    have hw2 : wrap64 (-3 - x2) = -3 - x2 := by unfold wrap64; omega
    go_wp2_with fail
    refine (nuMod_any (-3 - x2) 4 _ ⟨by omega, by omega⟩ (by omega) (by omega)).mono ?_
    rintro e3 w3 ⟨rfl, rfl⟩
    by_cases cm : 1 < (-3 - x2) % 4
    · have cm' : decide (1 < (-3 - x2) % 4) = true := decide_eq_true cm
      have hw3 : wrap64 (-3 - x2 - 2) = -3 - x2 - 2 := by unfold wrap64; omega
      go_wp2_with fail
      refine (l1Most_any _ _ _).mono ?_
      rintro e4 w4 ⟨rfl, rfl⟩
      go_wp2_with fail
      go_ret
      exact ⟨⟨_, rfl, by unfold I64; omega, trivial⟩, k2.mono (by omega), grown_then g1 g2⟩
    · have cm' : decide (1 < (-3 - x2) % 4) = false := decide_eq_false cm
      go_wp2_with fail
      go_ret
      exact ⟨⟨_, rfl, ⟨by omega, by omega⟩, trivial⟩, k2.mono (by omega), grown_then g1 g2⟩
  by_cases c3 : x1 = 3
  · subst c3
    go_wp2_with fail
    refine (among_any (m + 2) g w1.heap.size 16 16 I64 _ (kA k1) (by omega) (by omega) (lst_new _ _ _ _ _ rfl ?_) (by have := k1.lt; omega)).mono ?_
    · simp [I64]
    rintro e2 w2 ⟨⟨x2, rfl, p2, q2⟩, k2, g2⟩
    go_wp2_with fail
    go_ret
    exact ⟨⟨_, rfl, p2, trivial⟩, k2.mono (by omega), grown_then g1 (grown_then (grown_of (below_alloc _ _) _) g2)⟩
  by_cases c4 : x1 = 4
  · subst c4
    go_wp2_with fail
    refine (among_any (m + 2) g w1.heap.size 16 16 I64 _ (kA k1) (by omega) (by omega) (lst_new _ _ _ _ _ rfl ?_) (by have := k1.lt; omega)).mono ?_
    · simp [I64]
    rintro e2 w2 ⟨⟨x2, rfl, p2, q2⟩, k2, g2⟩
    go_wp2_with fail
    go_ret
    exact ⟨⟨_, rfl, p2, trivial⟩, k2.mono (by omega), grown_then g1 (grown_then (grown_of (below_alloc _ _) _) g2)⟩
  by_cases c5 : x1 = 5
  · subst c5
    go_wp2_with fail
    refine (among_any (m + 2) g w1.heap.size 16 16 I64 _ (kA k1) (by omega) (by omega) (lst_new _ _ _ _ _ rfl ?_) (by have := k1.lt; omega)).mono ?_
    · simp [I64]
    rintro e2 w2 ⟨⟨x2, rfl, p2, q2⟩, k2, g2⟩
    go_wp2_with fail
    go_ret
    exact ⟨⟨_, rfl, p2, trivial⟩, k2.mono (by omega), grown_then g1 (grown_then (grown_of (below_alloc _ _) _) g2)⟩
  by_cases c6 : x1 = 6
  · subst c6
    go_wp2_with fail
    refine (pick_any _ g _ _ k1 (by omega) (by omega)).mono ?_
    rintro e2 w2 ⟨⟨x2, rfl, p2, q2⟩, k2, g2⟩
    go_wp2_with fail
    go_ret
    exact ⟨⟨_, rfl, by unfold I64; omega, trivial⟩, k2.mono (by omega), grown_then g1 g2⟩
  by_cases c7 : x1 = 7
  · subst c7
    go_wp2_with fail
    refine (pick_any _ g _ _ k1 (by omega) (by omega)).mono ?_
    rintro e2 w2 ⟨⟨x2, rfl, p2, q2⟩, k2, g2⟩
    go_wp2_with fail
    go_ret
    exact ⟨⟨_, rfl, by unfold I64; omega, trivial⟩, k2.mono (by omega), grown_then g1 g2⟩
  have d0 : (x1 == 0) = false := by simp [c0]
  have d1 : (x1 == 1) = false := by simp [c1]
  have d2 : (x1 == 2) = false := by simp [c2]
  have d3 : (x1 == 3) = false := by simp [c3]
  have d4 : (x1 == 4) = false := by simp [c4]
  have d5 : (x1 == 5) = false := by simp [c5]
  have d6 : (x1 == 6) = false := by simp [c6]
  have d7 : (x1 == 7) = false := by simp [c7]
  clear c0 c1 c2 c3 c4 c5 c6 c7
  go_wp2_with fail
  refine (pick_any _ g _ _ k1 (by omega) (by omega)).mono ?_
  rintro e2 w2 ⟨⟨x2, rfl, p2, q2⟩, k2, g2⟩
  go_wp2_with fail
  go_ret
  exact ⟨⟨_, rfl, by unfold I64; omega, trivial⟩, k2.mono (by omega), grown_then g1 g2⟩
end Go.Proofs.Ytahhbjjnbdggjaa
