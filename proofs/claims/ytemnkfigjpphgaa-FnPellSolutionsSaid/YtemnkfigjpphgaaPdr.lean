/-
  The reference's draws of solutions.
-/
import Derived.Test.YtemnkfigjpphgaaSpp
import Derived.Test.YtemnkfigjpphgaaIds
import Derived.Deep.Cut
namespace Go.Proofs.Ytemnkfigjpphgaa
open Go.RowKit
attribute [local simp, local go_sem] past_cell past_frozen past_tape
set_option maxRecDepth 100000 in
set_option maxHeartbeats 4000000 in
theorem drawPellPower_any (a : Option Addr) (len cap : Nat) (w : World) (hc : CodeOk w.heap.size w a len) (hl : len ≤ 140737488355328) :
    Calls Try.prog 7 #[.slice a len cap] w fun e w' => (∃ d k : Int, e = .returned (.tuple #[.int .i64 d, .int .i64 k]) ∧ I64 d ∧ I64 k) ∧ Below w.heap.size w w' := by
  go_enter Try.func7, Try.ntmps7
  go_wp2_with fail
  have k0 : Cur 0 w.heap.size (w.alloc (.cells #[.slice a len cap, .int .i64 0, .int .u64 0] 67)) := Cur.made hc hl
  refine (positive_any _ w.heap.size _ k0 (by omega)).mono ?_
  rintro e1 w1 ⟨⟨x1, rfl, p1, -⟩, k1, g1⟩
  go_wp2_with fail
  refine (pick_any _ w.heap.size _ _ k1 (by omega) (by omega)).mono ?_
  rintro e2 w2 ⟨⟨x2, rfl, p2, q2⟩, k2, g2⟩
  go_wp2_with fail
  refine (among_any _ w.heap.size w2.heap.size 10 10 I64 _ (kA k2) (by omega) (by omega) (lst_new _ _ _ _ _ rfl ?_) (by have := k2.lt; omega)).mono ?_
  · simp [I64]; omega
  rintro e3 w3 ⟨⟨x3, rfl, p3, -⟩, k3, g3⟩
  have s3 := gT g3 (gA (gT g2 g1))
  have hB3 : Below w.heap.size w w3 := below_of_grown ((Below.refl _ _).alloc (Nat.le_refl _) _) s3 (by simp) (fun k e => by cases e; omega)
  clear g1 g2 g3 s3 k1 k2 k3
  go_wp2_with fail
  refine bodyPost_ret (v := .tuple #[.int .i64 x1, .int .i64 x3]) (by go_light; simp [results, Try.results7, go_sem, *]) rfl ?_
  exact ⟨⟨x1, x3, rfl, p1, p3⟩, hB3⟩
set_option maxRecDepth 100000 in
set_option maxHeartbeats 4000000 in
theorem drawPellOne_any (a : Option Addr) (len cap : Nat) (w : World) (hc : CodeOk w.heap.size w a len) (hl : len ≤ 140737488355328) :
    Calls Try.prog 16 #[.slice a len cap] w fun e w' => (∃ n : Int, e = .returned (.int .i64 n) ∧ I64 n) ∧ Below w.heap.size w w' := by
  go_enter Try.func16, Try.ntmps16
  go_wp2_with fail
  have k0 : Cur 0 w.heap.size (w.alloc (.cells #[.slice a len cap, .int .i64 0, .int .u64 0] 67)) := Cur.made hc hl
  refine (pick_any _ w.heap.size _ _ k0 (by omega) (by omega)).mono ?_
  rintro e1 w1 ⟨⟨x1, rfl, p1, q1⟩, k1, g1⟩
  have hw1 : wrap64 (2 + x1) = 2 + x1 := by unfold wrap64; omega
  go_wp2_with fail
  refine (pick_any _ w.heap.size _ _ k1 (by omega) (by omega)).mono ?_
  rintro e2 w2 ⟨⟨x2, rfl, p2, q2⟩, k2, g2⟩
  have hw2 : wrap64 (2 + x2) = 2 + x2 := by unfold wrap64; omega
  go_wp2_with fail
  refine (among_any _ w.heap.size w2.heap.size 15 15 I64 _ (kA k2) (by omega) (by omega) (lst_new _ _ _ _ _ rfl ?_) (by have := k2.lt; omega)).mono ?_
  · simp [I64]; omega
  rintro e3 w3 ⟨⟨x3, rfl, p3, -⟩, k3, g3⟩
  have s3 := gT g3 (gA (gT g2 g1))
  have hB3 : Below w.heap.size w w3 := below_of_grown ((Below.refl _ _).alloc (Nat.le_refl _) _) s3 (by simp) (fun k e => by cases e; omega)
  clear g1 g2 g3 s3 k1 k2 k3
  go_wp2_with fail
  go_ret
  exact ⟨⟨x3, rfl, p3⟩, hB3⟩
set_option maxRecDepth 100000 in
set_option maxHeartbeats 4000000 in
theorem drawPellMinusFour_any (a : Option Addr) (len cap : Nat) (w : World) (hc : CodeOk w.heap.size w a len) (hl : len ≤ 140737488355328) :
    Calls Try.prog 58 #[.slice a len cap] w fun e w' => (∃ n : Int, e = .returned (.int .i64 n) ∧ I64 n) ∧ Below w.heap.size w w' := by
  go_enter Try.func58, Try.ntmps58
  go_wp2_with fail
  have k0 : Cur 0 w.heap.size (w.alloc (.cells #[.slice a len cap, .int .i64 0, .int .u64 0] 67)) := Cur.made hc hl
  refine (one_any _ w.heap.size _ _ k0 (by omega) (by omega)).mono ?_
  rintro e1 w1 ⟨⟨x1, rfl, -, -⟩, k1, g1⟩
  cases x1 with
  | true =>
    go_wp2_with fail
    refine (among_any _ w.heap.size w1.heap.size 15 15 I64 _ (kA k1) (by omega) (by omega) (lst_new _ _ _ _ _ rfl ?_) (by have := k1.lt; omega)).mono ?_
    · simp [I64]
    rintro e3 w3 ⟨⟨x3, rfl, p3, -⟩, k3, g3⟩
    have s3 := gT g3 (gA g1)
    have hB3 : Below w.heap.size w w3 := below_of_grown ((Below.refl _ _).alloc (Nat.le_refl _) _) s3 (by simp) (fun k e => by cases e; omega)
    clear g1 g3 s3 k1 k3
    go_wp2_with fail
    go_ret
    exact ⟨⟨x3, rfl, p3⟩, hB3⟩
  | false =>
    go_wp2_with fail
    refine (positive_any _ w.heap.size _ k1 (by omega)).mono ?_
    rintro e3 w3 ⟨⟨x3, rfl, p3, -⟩, k3, g3⟩
    have s3 := gT g3 g1
    have hB3 : Below w.heap.size w w3 := below_of_grown ((Below.refl _ _).alloc (Nat.le_refl _) _) s3 (by simp) (fun k e => by cases e; omega)
    clear g1 g3 s3 k1 k3
    go_wp2_with fail
    go_ret
    exact ⟨⟨x3, rfl, p3⟩, hB3⟩
/-- The blocks of a drawn solution. -/
structure SB (w wr : World) (g m : Nat) (t u : Int) : Prop where
  r : Blk w.heap.size 27 #[.int .i64 0, .int .i64 0] wr
  x : Blk (w.heap.size + 1) 27 #[.int .i64 t, .int .i64 u] wr
  c : Cur m g wr
  s : w.grownBy wr (some g)
  i : I64 t
theorem SB.draw {w wr w' : World} {g m m' : Nat} {t u : Int} (h : SB w wr g m t u) (hlt : g < w.heap.size) (k : Cur m' g w') (g1 : wr.grownBy w' (some g)) : SB w w' g m' t u :=
  ⟨h.r.grown g1 (fun e => by cases e; omega), h.x.grown g1 (fun e => by cases e; omega), k, gT g1 h.s, h.i⟩
theorem SB.below {w wr w' : World} {g m : Nat} {t u : Int} (h : SB w wr g m t u) (hb : Below wr.heap.size wr w') : SB w w' g m t u :=
  ⟨h.r.below hb, h.x.below hb, kB hb h.c, gB hb h.s, h.i⟩
theorem SB.alloc {w wr : World} {g m : Nat} {t u : Int} (h : SB w wr g m t u) (o : Obj) : SB w (wr.alloc o) g m t u :=
  ⟨h.r.alloc o, h.x.alloc o, kA h.c, gA h.s, h.i⟩
theorem SB.mono {w wr : World} {g m m' : Nat} {t u : Int} (h : SB w wr g m t u) (hm : m ≤ m') : SB w wr g m' t u := ⟨h.r, h.x, h.c.mono hm, h.s, h.i⟩
theorem SB.set {w wr : World} {g m : Nat} {t u : Int} (h : SB w wr g m t u) (hlt : g < w.heap.size) (t' u' : Int) (hi : I64 t') : SB w ((wr.setCell ⟨w.heap.size + 1, 0, none⟩ (.int .i64 t')).setCell ⟨w.heap.size + 1, 1, none⟩ (.int .i64 u')) g m t' u' := by
  obtain ⟨w4, e4, k4, z4, g4⟩ := h.x.set2 (.int .i64 t') (.int .i64 u')
  rw [e4]
  exact ⟨h.r.grown g4 (by simp), k4, h.c.apart g4 (fun k e => by cases e; omega), gO (by omega) g4 h.s, hi⟩
theorem SB.set0 {w wr : World} {g m : Nat} {t u : Int} (h : SB w wr g m t u) (hlt : g < w.heap.size) (t' : Int) (hi : I64 t') : SB w (wr.setCell ⟨w.heap.size + 1, 0, none⟩ (.int .i64 t')) g m t' u :=
  ⟨h.r.grown (grown_set1 _ _ _ _) (by simp), h.x.set1 0 _, h.c.apart (grown_set1 _ _ _ _) (fun k e => by cases e; omega), gO (by omega) (grown_set1 _ _ _ _) h.s, hi⟩
theorem SB.sete {w wr : World} {g m : Nat} {t u : Int} (h : SB w wr g m t u) (hlt : g < w.heap.size) (u' : Int) : SB w (wr.setCell ⟨w.heap.size + 1, 1, none⟩ (.int .i64 u')) g m t u' :=
  ⟨h.r.grown (grown_set1 _ _ _ _) (by simp), h.x.set1 1 _, h.c.apart (grown_set1 _ _ _ _) (fun k e => by cases e; omega), gO (by omega) (grown_set1 _ _ _ _) h.s, h.i⟩
theorem wrap_I (n : Int) : I64 (wrap64 n) := by unfold I64 wrap64; omega
theorem up_I {d k t u : Int} {ok : Bool} (h : UP d k t u ok) : I64 t := by
  obtain ⟨T, U, okf, _, ⟨_, h⟩ | ⟨_, rfl, _, _⟩⟩ := h
  · rcases h with ⟨_, rfl, rfl, h3⟩ | ⟨_, rfl, _, _⟩
    · obtain ⟨⟨h1, h2⟩, _⟩ := smallB_bd (h3 _ (Nat.le_refl _))
      exact ⟨by omega, by omega⟩
    · unfold I64; omega
  · unfold I64; omega
theorem pm_I {d t u : Int} {ok : Bool} (h : PM d t u ok) : I64 t := by
  obtain ⟨T, U, okf, hf, ⟨rfl, h⟩ | ⟨_, rfl, _, _⟩⟩ := h
  · obtain ⟨_, _, hS⟩ := hf.true
    have := hS.1
    rcases h with ⟨_, h1, _, h2⟩ | ⟨_, rfl, _, _⟩
    · have := (le_mul_pos h1.1 h1.1).1
      have := h1.1
      exact ⟨by omega, by omega⟩
    · unfold I64; omega
  · unfold I64; omega
end Go.Proofs.Ytemnkfigjpphgaa
