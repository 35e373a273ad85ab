/-
  The reference's draws of forms and matrices: only that each answers with integers of 64 bits, and turns the cursor's block alone.
-/
import Derived.Test.YtemnkfigjpphgaaDrw
import Derived.Test.YtemnkfigjpphgaaForm
namespace Go.Proofs.Ytemnkfigjpphgaa
open Go.RowKit
attribute [local simp, local go_sem] past_cell past_frozen past_tape
set_option maxHeartbeats 4000000 in
theorem form_any (m g : Nat) (w : World) (h : Cur m g w) (hm : m ≤ 900000) :
    Calls Try.prog 120 #[.pointer (some ⟨g, 0, none⟩)] w fun e w' => (∃ x : Int × Int × Int, e = .returned (.agg #[.int .i64 x.1, .int .i64 x.2.1, .int .i64 x.2.2]) ∧ (I64 x.1 ∧ I64 x.2.1 ∧ I64 x.2.2) ∧ True) ∧ Cur (m + 40) g w' ∧ w.grownBy w' (some g) := by
  have hlt := h.lt
  have k0 : Cur m g (w.alloc (.cells #[.int .i64 0, .int .i64 0, .int .i64 0] 36)) := kA h
  go_enter Try.func120, Try.ntmps120
  go_wp2_with fail
  refine (pick_any _ g _ _ k0 (by omega) (by omega)).mono ?_
  rintro e1 w1 ⟨⟨x1, rfl, p1, q1⟩, k1, g1⟩
  obtain ⟨hC1, hF1⟩ := gcell g1 hlt
  have hS1 := g1.size
  (try simp at hS1)
  (try have hS1_w : w.heap.size < w1.heap.size := by omega)
  (try have hM1_1 : w.heap.size < w1.heap.size + 1 := by omega)
  (try have hS1_v : w.heap.size + 1 < w1.heap.size := by omega)
  (try have hS1_u : w.heap.size + 1 + 1 < w1.heap.size := by omega)
  by_cases c0 : x1 = 0
  · subst c0
    go_wp2_with fail
    refine (number_any _ g _ k1 (by omega)).mono ?_
    rintro e2 w2 ⟨⟨x2, rfl, p2, q2⟩, k2, g2⟩
    obtain ⟨hC2, hF2⟩ := gcell g2 hlt
    have hS2 := g2.size
    (try simp at hS2)
    (try have hS2_w : w.heap.size < w2.heap.size := by omega)
    (try have hM2_1 : w.heap.size < w2.heap.size + 1 := by omega)
    (try have hS2_v : w.heap.size + 1 < w2.heap.size := by omega)
    (try have hS2_u : w.heap.size + 1 + 1 < w2.heap.size := by omega)
    go_wp2_with fail
    refine (number_any _ g _ k2 (by omega)).mono ?_
    rintro e3 w3 ⟨⟨x3, rfl, p3, q3⟩, k3, g3⟩
    obtain ⟨hC3, hF3⟩ := gcell g3 hlt
    have hS3 := g3.size
    (try simp at hS3)
    (try have hS3_w : w.heap.size < w3.heap.size := by omega)
    (try have hM3_1 : w.heap.size < w3.heap.size + 1 := by omega)
    (try have hS3_v : w.heap.size + 1 < w3.heap.size := by omega)
    (try have hS3_u : w.heap.size + 1 + 1 < w3.heap.size := by omega)
    go_wp2_with fail
    refine (number_any _ g _ k3 (by omega)).mono ?_
    rintro e4 w4 ⟨⟨x4, rfl, p4, q4⟩, k4, g4⟩
    obtain ⟨hC4, hF4⟩ := gcell g4 hlt
    have hS4 := g4.size
    (try simp at hS4)
    (try have hS4_w : w.heap.size < w4.heap.size := by omega)
    (try have hM4_1 : w.heap.size < w4.heap.size + 1 := by omega)
    (try have hS4_v : w.heap.size + 1 < w4.heap.size := by omega)
    (try have hS4_u : w.heap.size + 1 + 1 < w4.heap.size := by omega)
    go_wp2_with fail
    refine bodyPost_ret (v := .agg #[.int .i64 x2, .int .i64 x3, .int .i64 x4]) (by go_light; simp [results, Try.results120, go_sem, *]) rfl ⟨⟨(x2, x3, x4), rfl, ⟨p2, p3, p4⟩, trivial⟩, ?_, ?_⟩
    · repeat (first | with_reducible refine kA ?_ | ((with_reducible refine kS ?_ ?_); focus omega))
      exact Cur.mono (by assumption) (by omega)
    · repeat (first | with_reducible assumption | with_reducible exact grown_id _ _ | with_reducible refine gA ?_ | ((with_reducible refine gS ?_ ?_); focus (first | omega | (simp <;> omega))) | with_reducible refine gT (by assumption) ?_)
  by_cases c1 : x1 = 1
  · subst c1
    go_wp2_with fail
    refine (among_any (m + 2) g w1.heap.size 5 5 I64 _ (kA k1) (by omega) (by omega) (lst_new _ _ _ _ _ rfl ?_) (by have := k1.lt; omega)).mono ?_
    · simp [I64]
    rintro e2 w2 ⟨⟨x2, rfl, p2, q2⟩, k2, g2⟩
    obtain ⟨hC2, hF2⟩ := gcell g2 hlt
    have hS2 := g2.size
    (try simp at hS2)
    (try have hS2_w : w.heap.size < w2.heap.size := by omega)
    (try have hM2_1 : w.heap.size < w2.heap.size + 1 := by omega)
    (try have hS2_v : w.heap.size + 1 < w2.heap.size := by omega)
    (try have hS2_u : w.heap.size + 1 + 1 < w2.heap.size := by omega)
    go_wp2_with fail
    refine (pick_any _ g _ _ k2 (by omega) (by omega)).mono ?_
    rintro e3 w3 ⟨⟨x3, rfl, p3, q3⟩, k3, g3⟩
    obtain ⟨hC3, hF3⟩ := gcell g3 hlt
    have hS3 := g3.size
    (try simp at hS3)
    (try have hS3_w : w.heap.size < w3.heap.size := by omega)
    (try have hM3_1 : w.heap.size < w3.heap.size + 1 := by omega)
    (try have hS3_v : w.heap.size + 1 < w3.heap.size := by omega)
    (try have hS3_u : w.heap.size + 1 + 1 < w3.heap.size := by omega)
    go_wp2_with fail
    refine (pick_any _ g _ _ k3 (by omega) (by omega)).mono ?_
    rintro e4 w4 ⟨⟨x4, rfl, p4, q4⟩, k4, g4⟩
    obtain ⟨hC4, hF4⟩ := gcell g4 hlt
    have hS4 := g4.size
    (try simp at hS4)
    (try have hS4_w : w.heap.size < w4.heap.size := by omega)
    (try have hM4_1 : w.heap.size < w4.heap.size + 1 := by omega)
    (try have hS4_v : w.heap.size + 1 < w4.heap.size := by omega)
    (try have hS4_u : w.heap.size + 1 + 1 < w4.heap.size := by omega)
    have hw4 : wrap64 (x4 - 10) = x4 - 10 := by unfold wrap64; omega
    go_wp2_with fail
    refine (pick_any _ g _ _ k4 (by omega) (by omega)).mono ?_
    rintro e5 w5 ⟨⟨x5, rfl, p5, q5⟩, k5, g5⟩
    obtain ⟨hC5, hF5⟩ := gcell g5 hlt
    have hS5 := g5.size
    (try simp at hS5)
    (try have hS5_w : w.heap.size < w5.heap.size := by omega)
    (try have hM5_1 : w.heap.size < w5.heap.size + 1 := by omega)
    (try have hS5_v : w.heap.size + 1 < w5.heap.size := by omega)
    (try have hS5_u : w.heap.size + 1 + 1 < w5.heap.size := by omega)
    go_wp2_with fail
    refine bodyPost_ret (v := .agg #[.int .i64 (wrap64 (x2 * x3)), .int .i64 (wrap64 (x2 * (x4 - 10))), .int .i64 (wrap64 (x2 * x5))]) (by go_light; simp [results, Try.results120, go_sem, *]) rfl ⟨⟨(_, _, _), rfl, ⟨wrap64_I _, wrap64_I _, wrap64_I _⟩, trivial⟩, ?_, ?_⟩
    · repeat (first | with_reducible refine kA ?_ | ((with_reducible refine kS ?_ ?_); focus omega))
      exact Cur.mono (by assumption) (by omega)
    · repeat (first | with_reducible assumption | with_reducible exact grown_id _ _ | with_reducible refine gA ?_ | ((with_reducible refine gS ?_ ?_); focus (first | omega | (simp <;> omega))) | with_reducible refine gT (by assumption) ?_)
  by_cases c2 : x1 = 2
  · subst c2
    go_wp2_with fail
    refine (pick_any _ g _ _ k1 (by omega) (by omega)).mono ?_
    rintro e2 w2 ⟨⟨x2, rfl, p2, q2⟩, k2, g2⟩
    obtain ⟨hC2, hF2⟩ := gcell g2 hlt
    have hS2 := g2.size
    (try simp at hS2)
    (try have hS2_w : w.heap.size < w2.heap.size := by omega)
    (try have hM2_1 : w.heap.size < w2.heap.size + 1 := by omega)
    (try have hS2_v : w.heap.size + 1 < w2.heap.size := by omega)
    (try have hS2_u : w.heap.size + 1 + 1 < w2.heap.size := by omega)
    go_wp2_with fail
    refine (pick_any _ g _ _ k2 (by omega) (by omega)).mono ?_
    rintro e3 w3 ⟨⟨x3, rfl, p3, q3⟩, k3, g3⟩
    obtain ⟨hC3, hF3⟩ := gcell g3 hlt
    have hS3 := g3.size
    (try simp at hS3)
    (try have hS3_w : w.heap.size < w3.heap.size := by omega)
    (try have hM3_1 : w.heap.size < w3.heap.size + 1 := by omega)
    (try have hS3_v : w.heap.size + 1 < w3.heap.size := by omega)
    (try have hS3_u : w.heap.size + 1 + 1 < w3.heap.size := by omega)
    have hw4 : wrap64 (x3 - 1500) = x3 - 1500 := by unfold wrap64; omega
    go_wp2_with fail
    refine (pick_any _ g _ _ k3 (by omega) (by omega)).mono ?_
    rintro e4 w4 ⟨⟨x4, rfl, p4, q4⟩, k4, g4⟩
    obtain ⟨hC4, hF4⟩ := gcell g4 hlt
    have hS4 := g4.size
    (try simp at hS4)
    (try have hS4_w : w.heap.size < w4.heap.size := by omega)
    (try have hM4_1 : w.heap.size < w4.heap.size + 1 := by omega)
    (try have hS4_v : w.heap.size + 1 < w4.heap.size := by omega)
    (try have hS4_u : w.heap.size + 1 + 1 < w4.heap.size := by omega)
    go_wp2_with fail
    refine bodyPost_ret (v := .agg #[.int .i64 x2, .int .i64 (x3 - 1500), .int .i64 x4]) (by go_light; simp [results, Try.results120, go_sem, *]) rfl ⟨⟨(_, _, _), rfl, ⟨by simp only [I64]; omega, by simp only [I64]; omega, by simp only [I64]; omega⟩, trivial⟩, ?_, ?_⟩
    · repeat (first | with_reducible refine kA ?_ | ((with_reducible refine kS ?_ ?_); focus omega))
      exact Cur.mono (by assumption) (by omega)
    · repeat (first | with_reducible assumption | with_reducible exact grown_id _ _ | with_reducible refine gA ?_ | ((with_reducible refine gS ?_ ?_); focus (first | omega | (simp <;> omega))) | with_reducible refine gT (by assumption) ?_)
  by_cases c3 : x1 = 3
  · subst c3
    go_wp2_with fail
    refine (pick_any _ g _ _ k1 (by omega) (by omega)).mono ?_
    rintro e2 w2 ⟨⟨x2, rfl, p2, q2⟩, k2, g2⟩
    obtain ⟨hC2, hF2⟩ := gcell g2 hlt
    have hS2 := g2.size
    (try simp at hS2)
    (try have hS2_w : w.heap.size < w2.heap.size := by omega)
    (try have hM2_1 : w.heap.size < w2.heap.size + 1 := by omega)
    (try have hS2_v : w.heap.size + 1 < w2.heap.size := by omega)
    (try have hS2_u : w.heap.size + 1 + 1 < w2.heap.size := by omega)
    have hw2 : wrap64 (x2 - 10) = x2 - 10 := by unfold wrap64; omega
    go_wp2_with fail
    refine (pick_any _ g _ _ k2 (by omega) (by omega)).mono ?_
    rintro e3 w3 ⟨⟨x3, rfl, p3, q3⟩, k3, g3⟩
    obtain ⟨hC3, hF3⟩ := gcell g3 hlt
    have hS3 := g3.size
    (try simp at hS3)
    (try have hS3_w : w.heap.size < w3.heap.size := by omega)
    (try have hM3_1 : w.heap.size < w3.heap.size + 1 := by omega)
    (try have hS3_v : w.heap.size + 1 < w3.heap.size := by omega)
    (try have hS3_u : w.heap.size + 1 + 1 < w3.heap.size := by omega)
    have hw3 : wrap64 (x3 - 10) = x3 - 10 := by unfold wrap64; omega
    go_wp2_with fail
    refine (pick_any _ g _ _ k3 (by omega) (by omega)).mono ?_
    rintro e4 w4 ⟨⟨x4, rfl, p4, q4⟩, k4, g4⟩
    obtain ⟨hC4, hF4⟩ := gcell g4 hlt
    have hS4 := g4.size
    (try simp at hS4)
    (try have hS4_w : w.heap.size < w4.heap.size := by omega)
    (try have hM4_1 : w.heap.size < w4.heap.size + 1 := by omega)
    (try have hS4_v : w.heap.size + 1 < w4.heap.size := by omega)
    (try have hS4_u : w.heap.size + 1 + 1 < w4.heap.size := by omega)
    have hw4 : wrap64 (x4 - 10) = x4 - 10 := by unfold wrap64; omega
    go_wp2_with fail
    refine bodyPost_ret (v := .agg #[.int .i64 (x2 - 10), .int .i64 (x3 - 10), .int .i64 (x4 - 10)]) (by go_light; simp [results, Try.results120, go_sem, *]) rfl ⟨⟨(_, _, _), rfl, ⟨by simp only [I64]; omega, by simp only [I64]; omega, by simp only [I64]; omega⟩, trivial⟩, ?_, ?_⟩
    · repeat (first | with_reducible refine kA ?_ | ((with_reducible refine kS ?_ ?_); focus omega))
      exact Cur.mono (by assumption) (by omega)
    · repeat (first | with_reducible assumption | with_reducible exact grown_id _ _ | with_reducible refine gA ?_ | ((with_reducible refine gS ?_ ?_); focus (first | omega | (simp <;> omega))) | with_reducible refine gT (by assumption) ?_)
  have d0 : (x1 == 0) = false := by simp [c0]
  have d1 : (x1 == 1) = false := by simp [c1]
  have d2 : (x1 == 2) = false := by simp [c2]
  have d3 : (x1 == 3) = false := by simp [c3]
  clear c0 c1 c2 c3
  go_wp2_with fail
  refine (pick_any _ g _ _ k1 (by omega) (by omega)).mono ?_
  rintro e2 w2 ⟨⟨x2, rfl, p2, q2⟩, k2, g2⟩
  obtain ⟨hC2, hF2⟩ := gcell g2 hlt
  have hS2 := g2.size
  (try simp at hS2)
  (try have hS2_w : w.heap.size < w2.heap.size := by omega)
  (try have hM2_1 : w.heap.size < w2.heap.size + 1 := by omega)
  (try have hS2_v : w.heap.size + 1 < w2.heap.size := by omega)
  (try have hS2_u : w.heap.size + 1 + 1 < w2.heap.size := by omega)
  have hw2 : wrap64 (1 + x2) = 1 + x2 := by unfold wrap64; omega
  go_wp2_with fail
  refine (pick_any _ g _ _ k2 (by omega) (by omega)).mono ?_
  rintro e3 w3 ⟨⟨x3, rfl, p3, q3⟩, k3, g3⟩
  obtain ⟨hC3, hF3⟩ := gcell g3 hlt
  have hS3 := g3.size
  (try simp at hS3)
  (try have hS3_w : w.heap.size < w3.heap.size := by omega)
  (try have hM3_1 : w.heap.size < w3.heap.size + 1 := by omega)
  (try have hS3_v : w.heap.size + 1 < w3.heap.size := by omega)
  (try have hS3_u : w.heap.size + 1 + 1 < w3.heap.size := by omega)
  have hw3 : wrap64 (2 * (1 + x2)) = 2 * (1 + x2) := by unfold wrap64; omega
  go_wp2_with fail
  refine (pick_any _ g _ _ k3 (by omega) (by omega)).mono ?_
  rintro e4 w4 ⟨⟨x4, rfl, p4, q4⟩, k4, g4⟩
  obtain ⟨hC4, hF4⟩ := gcell g4 hlt
  have hS4 := g4.size
  (try simp at hS4)
  (try have hS4_w : w.heap.size < w4.heap.size := by omega)
  (try have hM4_1 : w.heap.size < w4.heap.size + 1 := by omega)
  (try have hS4_v : w.heap.size + 1 < w4.heap.size := by omega)
  (try have hS4_u : w.heap.size + 1 + 1 < w4.heap.size := by omega)
  have hw4 : wrap64 (x4 - (1 + x2)) = x4 - (1 + x2) := by unfold wrap64; omega
  have hw5 : wrap64 (x4 - (1 + x2) + 1) = x4 - (1 + x2) + 1 := by unfold wrap64; omega
  have hw6 : wrap64 (4 * (1 + x2)) = 4 * (1 + x2) := by unfold wrap64; omega
  have hz : ¬ 4 * (1 + x2) = 0 := by omega
  go_wp2_with fail
  refine bodyPost_ret (v := .agg #[.int .i64 (1 + x2), .int .i64 (x4 - (1 + x2) + 1), .int .i64 (wrap64 (wrap64 ((wrap64 (wrap64 ((x4 - (1 + x2) + 1) * (x4 - (1 + x2) + 1)) + 4 * (1 + x2))).tdiv (4 * (1 + x2))) + x3))]) (by go_light; simp [results, Try.results120, go_sem, *]) rfl ⟨⟨(_, _, _), rfl, ⟨by simp only [I64]; omega, by simp only [I64]; omega, wrap64_I _⟩, trivial⟩, ?_, ?_⟩
  · repeat (first | with_reducible refine kA ?_ | ((with_reducible refine kS ?_ ?_); focus omega))
    exact Cur.mono (by assumption) (by omega)
  · repeat (first | with_reducible assumption | with_reducible exact grown_id _ _ | with_reducible refine gA ?_ | ((with_reducible refine gS ?_ ?_); focus (first | omega | (simp <;> omega))) | with_reducible refine gT (by assumption) ?_)
set_option maxHeartbeats 2000000 in
theorem foMul_any (a b c d p q r s : Int) (w : World) :
    Calls Try.prog 80 #[.agg #[.int .i64 a, .int .i64 b, .int .i64 c, .int .i64 d], .agg #[.int .i64 p, .int .i64 q, .int .i64 r, .int .i64 s]] w fun e w' => e = .returned (.agg #[.int .i64 (wrap64 (wrap64 (a * p) + wrap64 (b * r))), .int .i64 (wrap64 (wrap64 (a * q) + wrap64 (b * s))), .int .i64 (wrap64 (wrap64 (c * p) + wrap64 (d * r))), .int .i64 (wrap64 (wrap64 (c * q) + wrap64 (d * s)))]) ∧ Below w.heap.size w w' := by
  go_enter Try.func80, Try.ntmps80
  go_wp2
  refine bodyPost_ret (v := .agg #[.int .i64 (wrap64 (wrap64 (a * p) + wrap64 (b * r))), .int .i64 (wrap64 (wrap64 (a * q) + wrap64 (b * s))), .int .i64 (wrap64 (wrap64 (c * p) + wrap64 (d * r))), .int .i64 (wrap64 (wrap64 (c * q) + wrap64 (d * s)))]) (by go_light; simp [results, Try.results80, go_sem, *]) rfl ⟨rfl, ?_⟩
  repeat (first | with_reducible exact Below.refl _ _ | with_reducible assumption | ((with_reducible refine blA ?_ ?_); (focus (first | omega | (simp <;> omega)))) | (with_reducible refine blD ?_) | (with_reducible refine blN ?_) | ((with_reducible refine blS ?_ ?_); (focus (first | omega | (simp <;> omega)))) | ((with_reducible refine blT (by assumption) ?_ ?_); (focus (first | omega | (simp <;> omega)))))
/-- A block of four integers of one's own, that P holds of. -/
def FourP (P : Int → Int → Int → Int → Prop) (b : Nat) (w : World) : Prop := b < w.heap.size ∧ ∃ p q r s : Int, P p q r s ∧ (∀ o, w.cell? ⟨b, o, none⟩ = (#[.int .i64 p, .int .i64 q, .int .i64 r, .int .i64 s] : Array Value)[o]?) ∧ ∀ o, w.frozen? ⟨b, o, none⟩ = false
theorem FourP.keep {P : Int → Int → Int → Int → Prop} {b : Nat} {w w' : World} (h : FourP P b w) (hz : w.heap.size ≤ w'.heap.size) (hk : w'.heap[b]? = w.heap[b]?) : FourP P b w' := by
  obtain ⟨h0, p, q, r, s, h1, h2, h3⟩ := h
  exact ⟨by omega, p, q, r, s, h1, fun o => by rw [block_cell hk]; exact h2 o, fun o => by rw [block_frozen hk]; exact h3 o⟩
theorem FourP.grown {P : Int → Int → Int → Int → Prop} {b g : Nat} {w w' : World} (h : FourP P b w) (hg : w.grownBy w' (some g)) (hb : g < b) : FourP P b w' := h.keep hg.size (hg.block b h.1 (fun e => by cases e; omega))
theorem FourP.below {P : Int → Int → Int → Int → Prop} {b : Nat} {w w' : World} (h : FourP P b w) (hb : Below w.heap.size w w') : FourP P b w' := h.keep hb.size (hb.block b h.1)
theorem FourP.far {P : Int → Int → Int → Int → Prop} {b c o : Nat} {u : Value} {w : World} (h : FourP P b w) (hb : b ≠ c) : FourP P b (w.setCell ⟨c, o, none⟩ u) := h.keep (by simp) ((grown_set w c o u).block b h.1 (fun e => by cases e; exact hb rfl))
theorem FourP.set {P P' : Int → Int → Int → Int → Prop} {b : Nat} {w : World} (h : FourP P b w) (p q r s : Int) (hp : P' p q r s) : FourP P' b ((((w.setCell ⟨b, 0, none⟩ (.int .i64 p)).setCell ⟨b, 1, none⟩ (.int .i64 q)).setCell ⟨b, 2, none⟩ (.int .i64 r)).setCell ⟨b, 3, none⟩ (.int .i64 s)) := by
  obtain ⟨h0, p0, q0, r0, s0, h1, h2, h3⟩ := h
  refine ⟨by simpa using h0, p, q, r, s, hp, fun o => ?_, fun o => ?_⟩
  · match o with
    | 0 => simp [go_sem, h2]
    | 1 => simp [go_sem, h2]
    | 2 => simp [go_sem, h2]
    | 3 => simp [go_sem, h2]
    | n + 4 => simp [go_sem, h2]
  · simp [go_sem, h3]
/-- Determinant 1, and no entry beyond k. -/
def Prp (k : Int) (p q r s : Int) : Prop := p * s - q * r = 1 ∧ Bd k p ∧ Bd k q ∧ Bd k r ∧ Bd k s
theorem Prp.I {k p q r s : Int} (h : Prp k p q r s) (hk : k ≤ 3125) : I64 p ∧ I64 q ∧ I64 r ∧ I64 s := by
  obtain ⟨-, ⟨a1, a2⟩, ⟨b1, b2⟩, ⟨c1, c2⟩, ⟨d1, d2⟩⟩ := h
  exact ⟨⟨by omega, by omega⟩, ⟨by omega, by omega⟩, ⟨by omega, by omega⟩, ⟨by omega, by omega⟩⟩
theorem small_mul {k t z : Int} (hz : Bd k z) (ht : -4 ≤ t ∧ t ≤ 4) (hk : k ≤ 625) : -(4 * k) ≤ z * t ∧ z * t ≤ 4 * k := by
  have := mul_bd (n := k * 4) hz (show Bd 4 t from ht) (Int.le_refl _)
  obtain ⟨h1, h2⟩ := this
  omega
theorem w3 {z : Int} (h : -1000000 ≤ z ∧ z ≤ 1000000) : wrap64 z = z := by unfold wrap64; omega
theorem Prp.right {k p q r s t : Int} (h : Prp k p q r s) (ht : -4 ≤ t ∧ t ≤ 4) (hk : k ≤ 625) : Prp (5 * k) p (p * t + q) r (r * t + s) := by
  obtain ⟨hd, hp, hq, hr, hs⟩ := h
  obtain ⟨m1, m2⟩ := small_mul hp ht hk
  obtain ⟨m3, m4⟩ := small_mul hr ht hk
  obtain ⟨a1, a2⟩ := hp
  obtain ⟨b1, b2⟩ := hq
  obtain ⟨c1, c2⟩ := hr
  obtain ⟨d1, d2⟩ := hs
  exact ⟨by grind, ⟨by omega, by omega⟩, ⟨by omega, by omega⟩, ⟨by omega, by omega⟩, ⟨by omega, by omega⟩⟩
theorem Prp.left {k p q r s t : Int} (h : Prp k p q r s) (ht : -4 ≤ t ∧ t ≤ 4) (hk : k ≤ 625) : Prp (5 * k) (p + q * t) q (r + s * t) s := by
  obtain ⟨hd, hp, hq, hr, hs⟩ := h
  obtain ⟨m1, m2⟩ := small_mul hq ht hk
  obtain ⟨m3, m4⟩ := small_mul hs ht hk
  obtain ⟨a1, a2⟩ := hp
  obtain ⟨b1, b2⟩ := hq
  obtain ⟨c1, c2⟩ := hr
  obtain ⟨d1, d2⟩ := hs
  exact ⟨by grind, ⟨by omega, by omega⟩, ⟨by omega, by omega⟩, ⟨by omega, by omega⟩, ⟨by omega, by omega⟩⟩
theorem Prp.turn {k p q r s : Int} (h : Prp k p q r s) : Prp (5 * k) q (-p) s (-r) := by
  obtain ⟨hd, ⟨a1, a2⟩, ⟨b1, b2⟩, ⟨c1, c2⟩, ⟨d1, d2⟩⟩ := h
  exact ⟨by grind, ⟨by omega, by omega⟩, ⟨by omega, by omega⟩, ⟨by omega, by omega⟩, ⟨by omega, by omega⟩⟩
theorem mulRight {k p q r s t : Int} (w : World) (h : Prp k p q r s) (ht : -4 ≤ t ∧ t ≤ 4) (hk : k ≤ 625) :
    Calls Try.prog 80 #[.agg #[.int .i64 p, .int .i64 q, .int .i64 r, .int .i64 s], .agg #[.int .i64 1, .int .i64 t, .int .i64 0, .int .i64 1]] w fun e w' => (∃ x : Int × Int × Int × Int, e = .returned (.agg #[.int .i64 x.1, .int .i64 x.2.1, .int .i64 x.2.2.1, .int .i64 x.2.2.2]) ∧ Prp (5 * k) x.1 x.2.1 x.2.2.1 x.2.2.2) ∧ Below w.heap.size w w' := by
  refine (foMul_any p q r s 1 t 0 1 w).mono ?_
  rintro e w' ⟨rfl, hB⟩
  have hh := h.right ht hk
  obtain ⟨hd, hp, hq, hr, hs⟩ := h
  obtain ⟨m1, m2⟩ := small_mul hp ht hk
  obtain ⟨m3, m4⟩ := small_mul hr ht hk
  obtain ⟨a1, a2⟩ := hp
  obtain ⟨b1, b2⟩ := hq
  obtain ⟨c1, c2⟩ := hr
  obtain ⟨d1, d2⟩ := hs
  refine ⟨⟨(p, p * t + q, r, r * t + s), ?_, hh⟩, hB⟩
  simp only [Int.mul_one, Int.mul_zero]
  rw [w3 (z := p) (by omega), w3 (z := q) (by omega), w3 (z := r) (by omega), w3 (z := s) (by omega), w3 (z := 0) (by omega), w3 (z := p * t) (by omega), w3 (z := r * t) (by omega), w3 (z := p + 0) (by omega), w3 (z := r + 0) (by omega), w3 (z := p * t + q) (by omega), w3 (z := r * t + s) (by omega), Int.add_zero, Int.add_zero]
theorem mulLeft {k p q r s t : Int} (w : World) (h : Prp k p q r s) (ht : -4 ≤ t ∧ t ≤ 4) (hk : k ≤ 625) :
    Calls Try.prog 80 #[.agg #[.int .i64 p, .int .i64 q, .int .i64 r, .int .i64 s], .agg #[.int .i64 1, .int .i64 0, .int .i64 t, .int .i64 1]] w fun e w' => (∃ x : Int × Int × Int × Int, e = .returned (.agg #[.int .i64 x.1, .int .i64 x.2.1, .int .i64 x.2.2.1, .int .i64 x.2.2.2]) ∧ Prp (5 * k) x.1 x.2.1 x.2.2.1 x.2.2.2) ∧ Below w.heap.size w w' := by
  refine (foMul_any p q r s 1 0 t 1 w).mono ?_
  rintro e w' ⟨rfl, hB⟩
  have hh := h.left ht hk
  obtain ⟨hd, hp, hq, hr, hs⟩ := h
  obtain ⟨m1, m2⟩ := small_mul hq ht hk
  obtain ⟨m3, m4⟩ := small_mul hs ht hk
  obtain ⟨a1, a2⟩ := hp
  obtain ⟨b1, b2⟩ := hq
  obtain ⟨c1, c2⟩ := hr
  obtain ⟨d1, d2⟩ := hs
  refine ⟨⟨(p + q * t, q, r + s * t, s), ?_, hh⟩, hB⟩
  simp only [Int.mul_one, Int.mul_zero]
  rw [w3 (z := p) (by omega), w3 (z := q) (by omega), w3 (z := r) (by omega), w3 (z := s) (by omega), w3 (z := 0) (by omega), w3 (z := q * t) (by omega), w3 (z := s * t) (by omega), w3 (z := 0 + q) (by omega), w3 (z := 0 + s) (by omega), w3 (z := p + q * t) (by omega), w3 (z := r + s * t) (by omega), Int.zero_add, Int.zero_add]
theorem mulTurn {k p q r s : Int} (w : World) (h : Prp k p q r s) (hk : k ≤ 625) :
    Calls Try.prog 80 #[.agg #[.int .i64 p, .int .i64 q, .int .i64 r, .int .i64 s], .agg #[.int .i64 0, .int .i64 (-1), .int .i64 1, .int .i64 0]] w fun e w' => (∃ x : Int × Int × Int × Int, e = .returned (.agg #[.int .i64 x.1, .int .i64 x.2.1, .int .i64 x.2.2.1, .int .i64 x.2.2.2]) ∧ Prp (5 * k) x.1 x.2.1 x.2.2.1 x.2.2.2) ∧ Below w.heap.size w w' := by
  refine (foMul_any p q r s 0 (-1) 1 0 w).mono ?_
  rintro e w' ⟨rfl, hB⟩
  have hh := h.turn
  obtain ⟨hd, ⟨a1, a2⟩, ⟨b1, b2⟩, ⟨c1, c2⟩, ⟨d1, d2⟩⟩ := h
  refine ⟨⟨(q, -p, s, -r), ?_, hh⟩, hB⟩
  simp only [Int.mul_one, Int.mul_zero, Int.mul_neg]
  rw [w3 (z := q) (by omega), w3 (z := s) (by omega), w3 (z := 0) (by omega), w3 (z := -p) (by omega), w3 (z := -r) (by omega), w3 (z := 0 + q) (by omega), w3 (z := 0 + s) (by omega), w3 (z := -p + 0) (by omega), w3 (z := -r + 0) (by omega), Int.zero_add, Int.zero_add, Int.add_zero, Int.add_zero]
/-- 5 to the power n, for n to 5. -/
def p5 : Nat → Int
  | 0 => 1
  | n + 1 => 5 * p5 n
theorem p5_le : ∀ {n : Nat}, n ≤ 4 → p5 n ≤ 625 ∧ 1 ≤ p5 n
  | 0, _ => by decide
  | 1, _ => by decide
  | 2, _ => by decide
  | 3, _ => by decide
  | 4, _ => by decide
theorem p5_le5 : ∀ {n : Nat}, n ≤ 5 → p5 n ≤ 3125 ∧ 1 ≤ p5 n
  | 0, _ => by decide
  | 1, _ => by decide
  | 2, _ => by decide
  | 3, _ => by decide
  | 4, _ => by decide
  | 5, _ => by decide
set_option maxRecDepth 100000 in
set_option maxHeartbeats 8000000 in
theorem proper_any (m g : Nat) (w : World) (h : Cur m g w) (hm : m ≤ 900000) :
    Calls Try.prog 127 #[.pointer (some ⟨g, 0, none⟩)] w fun e w' => (∃ x : Int × Int × Int × Int, e = .returned (.agg #[.int .i64 x.1, .int .i64 x.2.1, .int .i64 x.2.2.1, .int .i64 x.2.2.2]) ∧ (I64 x.1 ∧ I64 x.2.1 ∧ I64 x.2.2.1 ∧ I64 x.2.2.2) ∧ Prp 3125 x.1 x.2.1 x.2.2.1 x.2.2.2) ∧ Cur (m + 40) g w' ∧ w.grownBy w' (some g) := by
  have hlt := h.lt
  have k0 : Cur m g ((w.alloc (.cells #[.int .i64 0, .int .i64 0, .int .i64 0, .int .i64 0] 40)).alloc (.cells #[.int .i64 1, .int .i64 0, .int .i64 0, .int .i64 1] 40)) := kA (kA h)
  go_enter Try.func127, Try.ntmps127
  go_wp2_with fail
  refine (pick_any _ g _ _ k0 (by omega) (by omega)).mono ?_
  rintro e1 w1 ⟨⟨x1, rfl, p1, q1⟩, k1, g1⟩
  obtain ⟨hC1, hF1⟩ := gcell g1 hlt
  have hS1 := g1.size
  (try simp at hS1)
  (try have hS1_w : w.heap.size < w1.heap.size := by omega)
  (try have hM1_1 : w.heap.size < w1.heap.size + 1 := by omega)
  (try have hS1_v : w.heap.size + 1 < w1.heap.size := by omega)
  (try have hS1_u : w.heap.size + 1 + 1 < w1.heap.size := by omega)
  obtain ⟨n, rfl⟩ : ∃ n : Nat, x1 = n := ⟨x1.toNat, by omega⟩
  go_wp2_with fail
  go_loopw [4] (fun i wr => ∃ j : Nat, j ≤ 5 ∧ i = .int .i64 (j : Int) ∧ Hid (FourP (Prp (p5 (5 - j))) (w.heap.size + 1) wr) ∧ Hid (FourP (fun _ _ _ _ => True) w.heap.size wr) ∧ Hid (Cur (m + 2 + 4 * (5 - j)) g wr) ∧ Hid (w.grownBy wr (some g)) ∧ w.heap.size + 1 < wr.heap.size) (fun i _ => (intOf i).toNat)
  case atStart =>
    refine ⟨n, by omega, rfl, ?_, ?_, ?_, ?_, by omega⟩
    · exact ⟨by omega, 1, 0, 0, 1, ⟨by decide, ⟨by have := p5_le5 (n := 5 - n) (by omega); omega, by have := p5_le5 (n := 5 - n) (by omega); omega⟩, ⟨by have := p5_le5 (n := 5 - n) (by omega); omega, by have := p5_le5 (n := 5 - n) (by omega); omega⟩, ⟨by have := p5_le5 (n := 5 - n) (by omega); omega, by have := p5_le5 (n := 5 - n) (by omega); omega⟩, ⟨by have := p5_le5 (n := 5 - n) (by omega); omega, by have := p5_le5 (n := 5 - n) (by omega); omega⟩⟩, fun o => by simp [*, go_sem], fun o => by simp [*, go_sem]⟩
    · exact ⟨by omega, 0, 0, 0, 0, trivial, fun o => by simp [*, go_sem], fun o => by simp [*, go_sem]⟩
    · exact k1.mono (by omega)
    · exact gT g1 (gA (gA (grown_id _ _)))
  case round =>
    clear hC1 hF1 k1 g1
    obtain ⟨j, hj, rfl, F, Z, C, G, hz⟩ := hrel
    match j, hj, C with
    | 0, _, C => 
      obtain ⟨_, p, q, r, s, hI, hc, hf⟩ := F.out
      obtain ⟨_, _, _, _, _, _, hc', hf'⟩ := Z.out
      go_wp2_with fail
      have k9 : Cur _ g wr := C.out
      have g9 := G.out
      refine bodyPost_ret (v := .agg #[.int .i64 p, .int .i64 q, .int .i64 r, .int .i64 s]) (by go_light; simp [results, Try.results127, go_sem, *]) rfl ⟨⟨(p, q, r, s), rfl, hI.I (by decide), hI⟩, ?_, ?_⟩
      · repeat (first | with_reducible refine kA ?_ | ((with_reducible refine kS ?_ ?_); focus omega))
        exact Cur.mono (by assumption) (by omega)
      · repeat (first | with_reducible assumption | with_reducible exact grown_id _ _ | with_reducible refine gA ?_ | ((with_reducible refine gS ?_ ?_); focus (first | omega | (simp <;> omega))) | with_reducible refine gT (by assumption) ?_)
    | j + 1, hj, C => 
      have k1 : Cur (m + 2 + 4 * (5 - (j + 1))) g wr := C.out
      go_wp2_with fail
      refine (pick_any _ g _ _ k1 (by omega) (by omega)).mono ?_
      rintro e2 w2 ⟨⟨x2, rfl, p2, q2⟩, k2, g2⟩
      have F2 := F.out.grown g2 (by omega)
      have Z2 := Z.out.grown g2 (by omega)
      have hj5 : p5 (5 - j) = 5 * p5 (5 - (j + 1)) := by
        rw [show 5 - j = (5 - (j + 1)) + 1 by omega]
        rfl
      have hk5 := p5_le (n := 5 - (j + 1)) (by omega)
      have hw2 : wrap64 (x2 - 4) = x2 - 4 := by unfold wrap64; omega
      go_wp2_with fail
      refine (pick_any _ g _ _ k2 (by omega) (by omega)).mono ?_
      rintro e3 w3 ⟨⟨x3, rfl, p3, q3⟩, k3, g3⟩
      have F3 := F2.grown g3 (by omega)
      have Z3 := Z2.grown g3 (by omega)
      obtain ⟨_, p, q, r, s, hI, hc, hf⟩ := id F3
      by_cases c0 : x3 = 0
      · subst c0
        go_wp2_with fail
        refine (mulRight _ hI ⟨by omega, by omega⟩ hk5.1).mono ?_
        rintro e4 w4 ⟨⟨⟨y1, y2, y3, y4⟩, rfl, hP4⟩, hB4⟩
        have F4 := F3.below hB4
        have Z4 := Z3.below hB4
        have k4 := kB hB4 k3
        have g4 : w.grownBy w4 (some g) := gB hB4 (gT g3 (gT g2 G.out))
        obtain ⟨_, _, _, _, _, _, hc4, hf4⟩ := id F4
        go_wp2_with fail
        go_roundw
        case rel =>
          go_light
          refine ⟨j, by omega, by go_num, F4.set _ _ _ _ (hj5 ▸ hP4), ?_, ?_, ?_, by simp; exact F4.1⟩
          · exact (((Z4.far (by omega)).far (by omega)).far (by omega)).far (by omega)
          · show Cur _ _ _
            repeat (first | with_reducible refine kA ?_ | ((with_reducible refine kS ?_ ?_); focus omega))
            exact Cur.mono k4 (by omega)
          · show w.grownBy _ _
            repeat (first | with_reducible assumption | with_reducible refine gA ?_ | ((with_reducible refine gS ?_ ?_); focus omega))
        case measure => simp [intOf]
      by_cases c1 : x3 = 1
      · subst c1
        go_wp2_with fail
        refine (mulLeft _ hI ⟨by omega, by omega⟩ hk5.1).mono ?_
        rintro e4 w4 ⟨⟨⟨y1, y2, y3, y4⟩, rfl, hP4⟩, hB4⟩
        have F4 := F3.below hB4
        have Z4 := Z3.below hB4
        have k4 := kB hB4 k3
        have g4 : w.grownBy w4 (some g) := gB hB4 (gT g3 (gT g2 G.out))
        obtain ⟨_, _, _, _, _, _, hc4, hf4⟩ := id F4
        go_wp2_with fail
        go_roundw
        case rel =>
          go_light
          refine ⟨j, by omega, by go_num, F4.set _ _ _ _ (hj5 ▸ hP4), ?_, ?_, ?_, by simp; exact F4.1⟩
          · exact (((Z4.far (by omega)).far (by omega)).far (by omega)).far (by omega)
          · show Cur _ _ _
            repeat (first | with_reducible refine kA ?_ | ((with_reducible refine kS ?_ ?_); focus omega))
            exact Cur.mono k4 (by omega)
          · show w.grownBy _ _
            repeat (first | with_reducible assumption | with_reducible refine gA ?_ | ((with_reducible refine gS ?_ ?_); focus omega))
        case measure => simp [intOf]
      · have d0 : (x3 == 0) = false := by simp [c0]
        have d1 : (x3 == 1) = false := by simp [c1]
        clear c0 c1
        go_wp2_with fail
        refine (mulTurn _ hI hk5.1).mono ?_
        rintro e4 w4 ⟨⟨⟨y1, y2, y3, y4⟩, rfl, hP4⟩, hB4⟩
        have F4 := F3.below hB4
        have Z4 := Z3.below hB4
        have k4 := kB hB4 k3
        have g4 : w.grownBy w4 (some g) := gB hB4 (gT g3 (gT g2 G.out))
        obtain ⟨_, _, _, _, _, _, hc4, hf4⟩ := id F4
        go_wp2_with fail
        go_roundw
        case rel =>
          go_light
          refine ⟨j, by omega, by go_num, F4.set _ _ _ _ (hj5 ▸ hP4), ?_, ?_, ?_, by simp; exact F4.1⟩
          · exact (((Z4.far (by omega)).far (by omega)).far (by omega)).far (by omega)
          · show Cur _ _ _
            repeat (first | with_reducible refine kA ?_ | ((with_reducible refine kS ?_ ?_); focus omega))
            exact Cur.mono k4 (by omega)
          · show w.grownBy _ _
            repeat (first | with_reducible assumption | with_reducible refine gA ?_ | ((with_reducible refine gS ?_ ?_); focus omega))
        case measure => simp [intOf]
end Go.Proofs.Ytemnkfigjpphgaa
