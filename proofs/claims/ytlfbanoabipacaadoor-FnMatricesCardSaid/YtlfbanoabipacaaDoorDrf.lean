/-
  The reference's draws of forms and matrices: only that each answers with integers of 64 bits, and turns the cursor's block alone.
-/
import Derived.Test.YtlfbanoabipacaaDoorDrw
import Derived.Test.YtlfbanoabipacaaDoorForm
namespace Go.Proofs.YtlfbanoabipacaaDoor
open Go.RowKit
attribute [local simp, local go_sem] past_cell past_frozen past_tape
set_option maxHeartbeats 4000000 in
theorem form_any (m g : Nat) (w : World) (h : Cur m g w) (hm : m ≤ 900000) :
    Calls Tryd.prog 46 #[.pointer (some ⟨g, 0, none⟩)] w fun e w' => (∃ x : Int × Int × Int, e = .returned (.agg #[.int .i64 x.1, .int .i64 x.2.1, .int .i64 x.2.2]) ∧ (I64 x.1 ∧ I64 x.2.1 ∧ I64 x.2.2) ∧ True) ∧ Cur (m + 40) g w' ∧ w.grownBy w' (some g) := by
  have hlt := h.lt
  have k0 : Cur m g (w.alloc (.cells #[.int .i64 0, .int .i64 0, .int .i64 0] 44)) := kA h
  go_enter Tryd.func46, Tryd.ntmps46
  go_wp2_with fail
  refine (pick_any _ g _ _ k0 (by omega) (by omega)).mono ?_
  rintro e1 w1 ⟨⟨x1, rfl, p1, q1⟩, k1, g1⟩
  obtain ⟨hC1, hF1⟩ := gcell g1 hlt
  have hS1 := g1.size
  (try simp at hS1)
  (try have hS1_w : w.heap.size < w1.heap.size := by omega)
  (try have hM1_1 : w.heap.size < w1.heap.size + 1 := by omega)
  (try have hS1_v : w.heap.size + 1 < w1.heap.size := by omega)
  (try have hS1_u : w.heap.size + 1 + 1 < w1.heap.size := by omega)
  by_cases c0 : x1 = 0
  · subst c0
    go_wp2_with fail
    refine (number_any _ g _ k1 (by omega)).mono ?_
    rintro e2 w2 ⟨⟨x2, rfl, p2, q2⟩, k2, g2⟩
    obtain ⟨hC2, hF2⟩ := gcell g2 hlt
    have hS2 := g2.size
    (try simp at hS2)
    (try have hS2_w : w.heap.size < w2.heap.size := by omega)
    (try have hM2_1 : w.heap.size < w2.heap.size + 1 := by omega)
    (try have hS2_v : w.heap.size + 1 < w2.heap.size := by omega)
    (try have hS2_u : w.heap.size + 1 + 1 < w2.heap.size := by omega)
    go_wp2_with fail
    refine (number_any _ g _ k2 (by omega)).mono ?_
    rintro e3 w3 ⟨⟨x3, rfl, p3, q3⟩, k3, g3⟩
    obtain ⟨hC3, hF3⟩ := gcell g3 hlt
    have hS3 := g3.size
    (try simp at hS3)
    (try have hS3_w : w.heap.size < w3.heap.size := by omega)
    (try have hM3_1 : w.heap.size < w3.heap.size + 1 := by omega)
    (try have hS3_v : w.heap.size + 1 < w3.heap.size := by omega)
    (try have hS3_u : w.heap.size + 1 + 1 < w3.heap.size := by omega)
    go_wp2_with fail
    refine (number_any _ g _ k3 (by omega)).mono ?_
    rintro e4 w4 ⟨⟨x4, rfl, p4, q4⟩, k4, g4⟩
    obtain ⟨hC4, hF4⟩ := gcell g4 hlt
    have hS4 := g4.size
    (try simp at hS4)
    (try have hS4_w : w.heap.size < w4.heap.size := by omega)
    (try have hM4_1 : w.heap.size < w4.heap.size + 1 := by omega)
    (try have hS4_v : w.heap.size + 1 < w4.heap.size := by omega)
    (try have hS4_u : w.heap.size + 1 + 1 < w4.heap.size := by omega)
    go_wp2_with fail
    refine bodyPost_ret (v := .agg #[.int .i64 x2, .int .i64 x3, .int .i64 x4]) (by go_light; simp [results, Tryd.results46, go_sem, *]) rfl ⟨⟨(x2, x3, x4), rfl, ⟨p2, p3, p4⟩, trivial⟩, ?_, ?_⟩
    · repeat (first | with_reducible refine kA ?_ | ((with_reducible refine kS ?_ ?_); focus omega))
      exact Cur.mono (by assumption) (by omega)
    · repeat (first | with_reducible assumption | with_reducible exact grown_id _ _ | with_reducible refine gA ?_ | ((with_reducible refine gS ?_ ?_); focus (first | omega | (simp <;> omega))) | with_reducible refine gT (by assumption) ?_)
  by_cases c1 : x1 = 1
  · subst c1
    go_wp2_with fail
    refine (among_any (m + 2) g w1.heap.size 5 5 I64 _ (kA k1) (by omega) (by omega) (lst_new _ _ _ _ _ rfl ?_) (by have := k1.lt; omega)).mono ?_
    · simp [I64]
    rintro e2 w2 ⟨⟨x2, rfl, p2, q2⟩, k2, g2⟩
    obtain ⟨hC2, hF2⟩ := gcell g2 hlt
    have hS2 := g2.size
    (try simp at hS2)
    (try have hS2_w : w.heap.size < w2.heap.size := by omega)
    (try have hM2_1 : w.heap.size < w2.heap.size + 1 := by omega)
    (try have hS2_v : w.heap.size + 1 < w2.heap.size := by omega)
    (try have hS2_u : w.heap.size + 1 + 1 < w2.heap.size := by omega)
    go_wp2_with fail
    refine (pick_any _ g _ _ k2 (by omega) (by omega)).mono ?_
    rintro e3 w3 ⟨⟨x3, rfl, p3, q3⟩, k3, g3⟩
    obtain ⟨hC3, hF3⟩ := gcell g3 hlt
    have hS3 := g3.size
    (try simp at hS3)
    (try have hS3_w : w.heap.size < w3.heap.size := by omega)
    (try have hM3_1 : w.heap.size < w3.heap.size + 1 := by omega)
    (try have hS3_v : w.heap.size + 1 < w3.heap.size := by omega)
    (try have hS3_u : w.heap.size + 1 + 1 < w3.heap.size := by omega)
    go_wp2_with fail
    refine (pick_any _ g _ _ k3 (by omega) (by omega)).mono ?_
    rintro e4 w4 ⟨⟨x4, rfl, p4, q4⟩, k4, g4⟩
    obtain ⟨hC4, hF4⟩ := gcell g4 hlt
    have hS4 := g4.size
    (try simp at hS4)
    (try have hS4_w : w.heap.size < w4.heap.size := by omega)
    (try have hM4_1 : w.heap.size < w4.heap.size + 1 := by omega)
    (try have hS4_v : w.heap.size + 1 < w4.heap.size := by omega)
    (try have hS4_u : w.heap.size + 1 + 1 < w4.heap.size := by omega)
    have hw4 : wrap64 (x4 - 10) = x4 - 10 := by unfold wrap64; omega
    go_wp2_with fail
    refine (pick_any _ g _ _ k4 (by omega) (by omega)).mono ?_
    rintro e5 w5 ⟨⟨x5, rfl, p5, q5⟩, k5, g5⟩
    obtain ⟨hC5, hF5⟩ := gcell g5 hlt
    have hS5 := g5.size
    (try simp at hS5)
    (try have hS5_w : w.heap.size < w5.heap.size := by omega)
    (try have hM5_1 : w.heap.size < w5.heap.size + 1 := by omega)
    (try have hS5_v : w.heap.size + 1 < w5.heap.size := by omega)
    (try have hS5_u : w.heap.size + 1 + 1 < w5.heap.size := by omega)
    go_wp2_with fail
    refine bodyPost_ret (v := .agg #[.int .i64 (wrap64 (x2 * x3)), .int .i64 (wrap64 (x2 * (x4 - 10))), .int .i64 (wrap64 (x2 * x5))]) (by go_light; simp [results, Tryd.results46, go_sem, *]) rfl ⟨⟨(_, _, _), rfl, ⟨wrap64_I _, wrap64_I _, wrap64_I _⟩, trivial⟩, ?_, ?_⟩
    · repeat (first | with_reducible refine kA ?_ | ((with_reducible refine kS ?_ ?_); focus omega))
      exact Cur.mono (by assumption) (by omega)
    · repeat (first | with_reducible assumption | with_reducible exact grown_id _ _ | with_reducible refine gA ?_ | ((with_reducible refine gS ?_ ?_); focus (first | omega | (simp <;> omega))) | with_reducible refine gT (by assumption) ?_)
  by_cases c2 : x1 = 2
  · subst c2
    go_wp2_with fail
    refine (pick_any _ g _ _ k1 (by omega) (by omega)).mono ?_
    rintro e2 w2 ⟨⟨x2, rfl, p2, q2⟩, k2, g2⟩
    obtain ⟨hC2, hF2⟩ := gcell g2 hlt
    have hS2 := g2.size
    (try simp at hS2)
    (try have hS2_w : w.heap.size < w2.heap.size := by omega)
    (try have hM2_1 : w.heap.size < w2.heap.size + 1 := by omega)
    (try have hS2_v : w.heap.size + 1 < w2.heap.size := by omega)
    (try have hS2_u : w.heap.size + 1 + 1 < w2.heap.size := by omega)
    go_wp2_with fail
    refine (pick_any _ g _ _ k2 (by omega) (by omega)).mono ?_
    rintro e3 w3 ⟨⟨x3, rfl, p3, q3⟩, k3, g3⟩
    obtain ⟨hC3, hF3⟩ := gcell g3 hlt
    have hS3 := g3.size
    (try simp at hS3)
    (try have hS3_w : w.heap.size < w3.heap.size := by omega)
    (try have hM3_1 : w.heap.size < w3.heap.size + 1 := by omega)
    (try have hS3_v : w.heap.size + 1 < w3.heap.size := by omega)
    (try have hS3_u : w.heap.size + 1 + 1 < w3.heap.size := by omega)
    have hw4 : wrap64 (x3 - 1500) = x3 - 1500 := by unfold wrap64; omega
    go_wp2_with fail
    refine (pick_any _ g _ _ k3 (by omega) (by omega)).mono ?_
    rintro e4 w4 ⟨⟨x4, rfl, p4, q4⟩, k4, g4⟩
    obtain ⟨hC4, hF4⟩ := gcell g4 hlt
    have hS4 := g4.size
    (try simp at hS4)
    (try have hS4_w : w.heap.size < w4.heap.size := by omega)
    (try have hM4_1 : w.heap.size < w4.heap.size + 1 := by omega)
    (try have hS4_v : w.heap.size + 1 < w4.heap.size := by omega)
    (try have hS4_u : w.heap.size + 1 + 1 < w4.heap.size := by omega)
    go_wp2_with fail
    refine bodyPost_ret (v := .agg #[.int .i64 x2, .int .i64 (x3 - 1500), .int .i64 x4]) (by go_light; simp [results, Tryd.results46, go_sem, *]) rfl ⟨⟨(_, _, _), rfl, ⟨by simp only [I64]; omega, by simp only [I64]; omega, by simp only [I64]; omega⟩, trivial⟩, ?_, ?_⟩
    · repeat (first | with_reducible refine kA ?_ | ((with_reducible refine kS ?_ ?_); focus omega))
      exact Cur.mono (by assumption) (by omega)
    · repeat (first | with_reducible assumption | with_reducible exact grown_id _ _ | with_reducible refine gA ?_ | ((with_reducible refine gS ?_ ?_); focus (first | omega | (simp <;> omega))) | with_reducible refine gT (by assumption) ?_)
  by_cases c3 : x1 = 3
  · subst c3
    go_wp2_with fail
    refine (pick_any _ g _ _ k1 (by omega) (by omega)).mono ?_
    rintro e2 w2 ⟨⟨x2, rfl, p2, q2⟩, k2, g2⟩
    obtain ⟨hC2, hF2⟩ := gcell g2 hlt
    have hS2 := g2.size
    (try simp at hS2)
    (try have hS2_w : w.heap.size < w2.heap.size := by omega)
    (try have hM2_1 : w.heap.size < w2.heap.size + 1 := by omega)
    (try have hS2_v : w.heap.size + 1 < w2.heap.size := by omega)
    (try have hS2_u : w.heap.size + 1 + 1 < w2.heap.size := by omega)
    have hw2 : wrap64 (x2 - 10) = x2 - 10 := by unfold wrap64; omega
    go_wp2_with fail
    refine (pick_any _ g _ _ k2 (by omega) (by omega)).mono ?_
    rintro e3 w3 ⟨⟨x3, rfl, p3, q3⟩, k3, g3⟩
    obtain ⟨hC3, hF3⟩ := gcell g3 hlt
    have hS3 := g3.size
    (try simp at hS3)
    (try have hS3_w : w.heap.size < w3.heap.size := by omega)
    (try have hM3_1 : w.heap.size < w3.heap.size + 1 := by omega)
    (try have hS3_v : w.heap.size + 1 < w3.heap.size := by omega)
    (try have hS3_u : w.heap.size + 1 + 1 < w3.heap.size := by omega)
    have hw3 : wrap64 (x3 - 10) = x3 - 10 := by unfold wrap64; omega
    go_wp2_with fail
    refine (pick_any _ g _ _ k3 (by omega) (by omega)).mono ?_
    rintro e4 w4 ⟨⟨x4, rfl, p4, q4⟩, k4, g4⟩
    obtain ⟨hC4, hF4⟩ := gcell g4 hlt
    have hS4 := g4.size
    (try simp at hS4)
    (try have hS4_w : w.heap.size < w4.heap.size := by omega)
    (try have hM4_1 : w.heap.size < w4.heap.size + 1 := by omega)
    (try have hS4_v : w.heap.size + 1 < w4.heap.size := by omega)
    (try have hS4_u : w.heap.size + 1 + 1 < w4.heap.size := by omega)
    have hw4 : wrap64 (x4 - 10) = x4 - 10 := by unfold wrap64; omega
    go_wp2_with fail
    refine bodyPost_ret (v := .agg #[.int .i64 (x2 - 10), .int .i64 (x3 - 10), .int .i64 (x4 - 10)]) (by go_light; simp [results, Tryd.results46, go_sem, *]) rfl ⟨⟨(_, _, _), rfl, ⟨by simp only [I64]; omega, by simp only [I64]; omega, by simp only [I64]; omega⟩, trivial⟩, ?_, ?_⟩
    · repeat (first | with_reducible refine kA ?_ | ((with_reducible refine kS ?_ ?_); focus omega))
      exact Cur.mono (by assumption) (by omega)
    · repeat (first | with_reducible assumption | with_reducible exact grown_id _ _ | with_reducible refine gA ?_ | ((with_reducible refine gS ?_ ?_); focus (first | omega | (simp <;> omega))) | with_reducible refine gT (by assumption) ?_)
  have d0 : (x1 == 0) = false := by simp [c0]
  have d1 : (x1 == 1) = false := by simp [c1]
  have d2 : (x1 == 2) = false := by simp [c2]
  have d3 : (x1 == 3) = false := by simp [c3]
  clear c0 c1 c2 c3
  go_wp2_with fail
  refine (pick_any _ g _ _ k1 (by omega) (by omega)).mono ?_
  rintro e2 w2 ⟨⟨x2, rfl, p2, q2⟩, k2, g2⟩
  obtain ⟨hC2, hF2⟩ := gcell g2 hlt
  have hS2 := g2.size
  (try simp at hS2)
  (try have hS2_w : w.heap.size < w2.heap.size := by omega)
  (try have hM2_1 : w.heap.size < w2.heap.size + 1 := by omega)
  (try have hS2_v : w.heap.size + 1 < w2.heap.size := by omega)
  (try have hS2_u : w.heap.size + 1 + 1 < w2.heap.size := by omega)
  have hw2 : wrap64 (1 + x2) = 1 + x2 := by unfold wrap64; omega
  go_wp2_with fail
  refine (pick_any _ g _ _ k2 (by omega) (by omega)).mono ?_
  rintro e3 w3 ⟨⟨x3, rfl, p3, q3⟩, k3, g3⟩
  obtain ⟨hC3, hF3⟩ := gcell g3 hlt
  have hS3 := g3.size
  (try simp at hS3)
  (try have hS3_w : w.heap.size < w3.heap.size := by omega)
  (try have hM3_1 : w.heap.size < w3.heap.size + 1 := by omega)
  (try have hS3_v : w.heap.size + 1 < w3.heap.size := by omega)
  (try have hS3_u : w.heap.size + 1 + 1 < w3.heap.size := by omega)
  have hw3 : wrap64 (2 * (1 + x2)) = 2 * (1 + x2) := by unfold wrap64; omega
  go_wp2_with fail
  refine (pick_any _ g _ _ k3 (by omega) (by omega)).mono ?_
  rintro e4 w4 ⟨⟨x4, rfl, p4, q4⟩, k4, g4⟩
  obtain ⟨hC4, hF4⟩ := gcell g4 hlt
  have hS4 := g4.size
  (try simp at hS4)
  (try have hS4_w : w.heap.size < w4.heap.size := by omega)
  (try have hM4_1 : w.heap.size < w4.heap.size + 1 := by omega)
  (try have hS4_v : w.heap.size + 1 < w4.heap.size := by omega)
  (try have hS4_u : w.heap.size + 1 + 1 < w4.heap.size := by omega)
  have hw4 : wrap64 (x4 - (1 + x2)) = x4 - (1 + x2) := by unfold wrap64; omega
  have hw5 : wrap64 (x4 - (1 + x2) + 1) = x4 - (1 + x2) + 1 := by unfold wrap64; omega
  have hw6 : wrap64 (4 * (1 + x2)) = 4 * (1 + x2) := by unfold wrap64; omega
  have hz : ¬ 4 * (1 + x2) = 0 := by omega
  go_wp2_with fail
  refine bodyPost_ret (v := .agg #[.int .i64 (1 + x2), .int .i64 (x4 - (1 + x2) + 1), .int .i64 (wrap64 (wrap64 ((wrap64 (wrap64 ((x4 - (1 + x2) + 1) * (x4 - (1 + x2) + 1)) + 4 * (1 + x2))).tdiv (4 * (1 + x2))) + x3))]) (by go_light; simp [results, Tryd.results46, go_sem, *]) rfl ⟨⟨(_, _, _), rfl, ⟨by simp only [I64]; omega, by simp only [I64]; omega, wrap64_I _⟩, trivial⟩, ?_, ?_⟩
  · repeat (first | with_reducible refine kA ?_ | ((with_reducible refine kS ?_ ?_); focus omega))
    exact Cur.mono (by assumption) (by omega)
  · repeat (first | with_reducible assumption | with_reducible exact grown_id _ _ | with_reducible refine gA ?_ | ((with_reducible refine gS ?_ ?_); focus (first | omega | (simp <;> omega))) | with_reducible refine gT (by assumption) ?_)
set_option maxHeartbeats 2000000 in
theorem foMul_any (a b c d p q r s : Int) (w : World) :
    Calls Tryd.prog 82 #[.agg #[.int .i64 a, .int .i64 b, .int .i64 c, .int .i64 d], .agg #[.int .i64 p, .int .i64 q, .int .i64 r, .int .i64 s]] w fun e w' => e = .returned (.agg #[.int .i64 (wrap64 (wrap64 (a * p) + wrap64 (b * r))), .int .i64 (wrap64 (wrap64 (a * q) + wrap64 (b * s))), .int .i64 (wrap64 (wrap64 (c * p) + wrap64 (d * r))), .int .i64 (wrap64 (wrap64 (c * q) + wrap64 (d * s)))]) ∧ Below w.heap.size w w' := by
  go_enter Tryd.func82, Tryd.ntmps82
  go_wp2
  refine bodyPost_ret (v := .agg #[.int .i64 (wrap64 (wrap64 (a * p) + wrap64 (b * r))), .int .i64 (wrap64 (wrap64 (a * q) + wrap64 (b * s))), .int .i64 (wrap64 (wrap64 (c * p) + wrap64 (d * r))), .int .i64 (wrap64 (wrap64 (c * q) + wrap64 (d * s)))]) (by go_light; simp [results, Tryd.results82, go_sem, *]) rfl ⟨rfl, ?_⟩
  repeat (first | with_reducible exact Below.refl _ _ | with_reducible assumption | ((with_reducible refine blA ?_ ?_); (focus (first | omega | (simp <;> omega)))) | (with_reducible refine blD ?_) | (with_reducible refine blN ?_) | ((with_reducible refine blS ?_ ?_); (focus (first | omega | (simp <;> omega)))) | ((with_reducible refine blT (by assumption) ?_ ?_); (focus (first | omega | (simp <;> omega)))))
/-- A block of four integers of one's own. -/
def Four (b : Nat) (w : World) : Prop := b < w.heap.size ∧ ∃ p q r s : Int, (I64 p ∧ I64 q ∧ I64 r ∧ I64 s) ∧ (∀ o, w.cell? ⟨b, o, none⟩ = (#[.int .i64 p, .int .i64 q, .int .i64 r, .int .i64 s] : Array Value)[o]?) ∧ ∀ o, w.frozen? ⟨b, o, none⟩ = false
theorem Four.keep {b : Nat} {w w' : World} (h : Four b w) (hz : w.heap.size ≤ w'.heap.size) (hk : w'.heap[b]? = w.heap[b]?) : Four b w' := by
  obtain ⟨h0, p, q, r, s, h1, h2, h3⟩ := h
  exact ⟨by omega, p, q, r, s, h1, fun o => by rw [block_cell hk]; exact h2 o, fun o => by rw [block_frozen hk]; exact h3 o⟩
theorem Four.grown {b g : Nat} {w w' : World} (h : Four b w) (hg : w.grownBy w' (some g)) (hb : g < b) : Four b w' := h.keep hg.size (hg.block b h.1 (fun e => by cases e; omega))
theorem Four.below {b : Nat} {w w' : World} (h : Four b w) (hb : Below w.heap.size w w') : Four b w' := h.keep hb.size (hb.block b h.1)
theorem Four.far {b c o : Nat} {u : Value} {w : World} (h : Four b w) (hb : b ≠ c) : Four b (w.setCell ⟨c, o, none⟩ u) := h.keep (by simp) ((grown_set w c o u).block b h.1 (fun e => by cases e; exact hb rfl))
theorem Four.set {b : Nat} {w : World} (h : Four b w) (p q r s : Int) (hp : I64 p) (hq : I64 q) (hr : I64 r) (hs : I64 s) : Four b ((((w.setCell ⟨b, 0, none⟩ (.int .i64 p)).setCell ⟨b, 1, none⟩ (.int .i64 q)).setCell ⟨b, 2, none⟩ (.int .i64 r)).setCell ⟨b, 3, none⟩ (.int .i64 s)) := by
  obtain ⟨h0, p0, q0, r0, s0, h1, h2, h3⟩ := h
  refine ⟨by simpa using h0, p, q, r, s, ⟨hp, hq, hr, hs⟩, fun o => ?_, fun o => ?_⟩
  · match o with
    | 0 => simp [go_sem, h2]
    | 1 => simp [go_sem, h2]
    | 2 => simp [go_sem, h2]
    | 3 => simp [go_sem, h2]
    | n + 4 => simp [go_sem, h2]
  · simp [go_sem, h3]
set_option maxRecDepth 100000 in
set_option maxHeartbeats 8000000 in
theorem proper_any (m g : Nat) (w : World) (h : Cur m g w) (hm : m ≤ 900000) :
    Calls Tryd.prog 71 #[.pointer (some ⟨g, 0, none⟩)] w fun e w' => (∃ x : Int × Int × Int × Int, e = .returned (.agg #[.int .i64 x.1, .int .i64 x.2.1, .int .i64 x.2.2.1, .int .i64 x.2.2.2]) ∧ (I64 x.1 ∧ I64 x.2.1 ∧ I64 x.2.2.1 ∧ I64 x.2.2.2) ∧ True) ∧ Cur (m + 40) g w' ∧ w.grownBy w' (some g) := by
  have hlt := h.lt
  have k0 : Cur m g ((w.alloc (.cells #[.int .i64 0, .int .i64 0, .int .i64 0, .int .i64 0] 36)).alloc (.cells #[.int .i64 1, .int .i64 0, .int .i64 0, .int .i64 1] 36)) := kA (kA h)
  go_enter Tryd.func71, Tryd.ntmps71
  go_wp2_with fail
  refine (pick_any _ g _ _ k0 (by omega) (by omega)).mono ?_
  rintro e1 w1 ⟨⟨x1, rfl, p1, q1⟩, k1, g1⟩
  obtain ⟨hC1, hF1⟩ := gcell g1 hlt
  have hS1 := g1.size
  (try simp at hS1)
  (try have hS1_w : w.heap.size < w1.heap.size := by omega)
  (try have hM1_1 : w.heap.size < w1.heap.size + 1 := by omega)
  (try have hS1_v : w.heap.size + 1 < w1.heap.size := by omega)
  (try have hS1_u : w.heap.size + 1 + 1 < w1.heap.size := by omega)
  obtain ⟨n, rfl⟩ : ∃ n : Nat, x1 = n := ⟨x1.toNat, by omega⟩
  go_wp2_with fail
  go_loopw [4] (fun i wr => ∃ j : Nat, j ≤ 5 ∧ i = .int .i64 (j : Int) ∧ Hid (Four (w.heap.size + 1) wr) ∧ Hid (Four w.heap.size wr) ∧ Hid (Cur (m + 2 + 4 * (5 - j)) g wr) ∧ Hid (w.grownBy wr (some g)) ∧ w.heap.size + 1 < wr.heap.size) (fun i _ => (intOf i).toNat)
  case atStart =>
    refine ⟨n, by omega, rfl, ?_, ?_, ?_, ?_, by omega⟩
    · exact ⟨by omega, 1, 0, 0, 1, by simp [I64], fun o => by simp [*, go_sem], fun o => by simp [*, go_sem]⟩
    · exact ⟨by omega, 0, 0, 0, 0, by simp [I64], fun o => by simp [*, go_sem], fun o => by simp [*, go_sem]⟩
    · exact k1.mono (by omega)
    · exact gT g1 (gA (gA (grown_id _ _)))
  case round =>
    clear hC1 hF1 k1 g1
    obtain ⟨j, hj, rfl, F, Z, C, G, hz⟩ := hrel
    match j, hj, C with
    | 0, _, C => 
      obtain ⟨_, p, q, r, s, hI, hc, hf⟩ := F.out
      obtain ⟨_, _, _, _, _, _, hc', hf'⟩ := Z.out
      go_wp2_with fail
      have k9 : Cur _ g wr := C.out
      have g9 := G.out
      refine bodyPost_ret (v := .agg #[.int .i64 p, .int .i64 q, .int .i64 r, .int .i64 s]) (by go_light; simp [results, Tryd.results71, go_sem, *]) rfl ⟨⟨(p, q, r, s), rfl, hI, trivial⟩, ?_, ?_⟩
      · repeat (first | with_reducible refine kA ?_ | ((with_reducible refine kS ?_ ?_); focus omega))
        exact Cur.mono (by assumption) (by omega)
      · repeat (first | with_reducible assumption | with_reducible exact grown_id _ _ | with_reducible refine gA ?_ | ((with_reducible refine gS ?_ ?_); focus (first | omega | (simp <;> omega))) | with_reducible refine gT (by assumption) ?_)
    | j + 1, hj, C => 
      have k1 : Cur (m + 2 + 4 * (5 - (j + 1))) g wr := C.out
      go_wp2_with fail
      refine (pick_any _ g _ _ k1 (by omega) (by omega)).mono ?_
      rintro e2 w2 ⟨⟨x2, rfl, p2, q2⟩, k2, g2⟩
      have F2 := F.out.grown g2 (by omega)
      have Z2 := Z.out.grown g2 (by omega)
      have hw2 : wrap64 (x2 - 4) = x2 - 4 := by unfold wrap64; omega
      go_wp2_with fail
      refine (pick_any _ g _ _ k2 (by omega) (by omega)).mono ?_
      rintro e3 w3 ⟨⟨x3, rfl, p3, q3⟩, k3, g3⟩
      have F3 := F2.grown g3 (by omega)
      have Z3 := Z2.grown g3 (by omega)
      obtain ⟨_, p, q, r, s, hI, hc, hf⟩ := id F3
      by_cases c0 : x3 = 0
      · subst c0
        go_wp2_with fail
        refine (foMul_any _ _ _ _ _ _ _ _ _).mono ?_
        rintro e4 w4 ⟨rfl, hB4⟩
        have F4 := F3.below hB4
        have Z4 := Z3.below hB4
        have k4 := kB hB4 k3
        have g4 : w.grownBy w4 (some g) := gB hB4 (gT g3 (gT g2 G.out))
        obtain ⟨_, _, _, _, _, _, hc4, hf4⟩ := id F4
        go_wp2_with fail
        go_roundw
        case rel =>
          go_light
          refine ⟨j, by omega, by go_num, F4.set _ _ _ _ (wrap64_I _) (wrap64_I _) (wrap64_I _) (wrap64_I _), ?_, ?_, ?_, by simp; exact F4.1⟩
          · exact (((Z4.far (by omega)).far (by omega)).far (by omega)).far (by omega)
          · show Cur _ _ _
            repeat (first | with_reducible refine kA ?_ | ((with_reducible refine kS ?_ ?_); focus omega))
            exact Cur.mono k4 (by omega)
          · show w.grownBy _ _
            repeat (first | with_reducible assumption | with_reducible refine gA ?_ | ((with_reducible refine gS ?_ ?_); focus omega))
        case measure => simp [intOf]
      by_cases c1 : x3 = 1
      · subst c1
        go_wp2_with fail
        refine (foMul_any _ _ _ _ _ _ _ _ _).mono ?_
        rintro e4 w4 ⟨rfl, hB4⟩
        have F4 := F3.below hB4
        have Z4 := Z3.below hB4
        have k4 := kB hB4 k3
        have g4 : w.grownBy w4 (some g) := gB hB4 (gT g3 (gT g2 G.out))
        obtain ⟨_, _, _, _, _, _, hc4, hf4⟩ := id F4
        go_wp2_with fail
        go_roundw
        case rel =>
          go_light
          refine ⟨j, by omega, by go_num, F4.set _ _ _ _ (wrap64_I _) (wrap64_I _) (wrap64_I _) (wrap64_I _), ?_, ?_, ?_, by simp; exact F4.1⟩
          · exact (((Z4.far (by omega)).far (by omega)).far (by omega)).far (by omega)
          · show Cur _ _ _
            repeat (first | with_reducible refine kA ?_ | ((with_reducible refine kS ?_ ?_); focus omega))
            exact Cur.mono k4 (by omega)
          · show w.grownBy _ _
            repeat (first | with_reducible assumption | with_reducible refine gA ?_ | ((with_reducible refine gS ?_ ?_); focus omega))
        case measure => simp [intOf]
      · have d0 : (x3 == 0) = false := by simp [c0]
        have d1 : (x3 == 1) = false := by simp [c1]
        clear c0 c1
        go_wp2_with fail
        refine (foMul_any _ _ _ _ _ _ _ _ _).mono ?_
        rintro e4 w4 ⟨rfl, hB4⟩
        have F4 := F3.below hB4
        have Z4 := Z3.below hB4
        have k4 := kB hB4 k3
        have g4 : w.grownBy w4 (some g) := gB hB4 (gT g3 (gT g2 G.out))
        obtain ⟨_, _, _, _, _, _, hc4, hf4⟩ := id F4
        go_wp2_with fail
        go_roundw
        case rel =>
          go_light
          refine ⟨j, by omega, by go_num, F4.set _ _ _ _ (wrap64_I _) (wrap64_I _) (wrap64_I _) (wrap64_I _), ?_, ?_, ?_, by simp; exact F4.1⟩
          · exact (((Z4.far (by omega)).far (by omega)).far (by omega)).far (by omega)
          · show Cur _ _ _
            repeat (first | with_reducible refine kA ?_ | ((with_reducible refine kS ?_ ?_); focus omega))
            exact Cur.mono k4 (by omega)
          · show w.grownBy _ _
            repeat (first | with_reducible assumption | with_reducible refine gA ?_ | ((with_reducible refine gS ?_ ?_); focus omega))
        case measure => simp [intOf]
end Go.Proofs.YtlfbanoabipacaaDoor
