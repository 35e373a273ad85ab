/-
  The reference's draw of a matrix, and the two draws of the law.
-/
import Derived.Test.YtlfbanoabipacaaDoorDrf
import Derived.Deep.RegionWith
namespace Go.Proofs.YtlfbanoabipacaaDoor
open Go.RowKit
attribute [local simp, local go_sem] past_cell past_frozen past_tape
set_option maxRecDepth 100000 in
set_option maxHeartbeats 8000000 in
theorem matrix_any (m g : Nat) (w : World) (h : Cur m g w) (hm : m ≤ 800000) :
    Calls Tryd.prog 47 #[.pointer (some ⟨g, 0, none⟩)] w fun e w' => (∃ x : Int × Int × Int × Int, e = .returned (.agg #[.int .i64 x.1, .int .i64 x.2.1, .int .i64 x.2.2.1, .int .i64 x.2.2.2]) ∧ (I64 x.1 ∧ I64 x.2.1 ∧ I64 x.2.2.1 ∧ I64 x.2.2.2) ∧ True) ∧ Cur (m + 100) g w' ∧ w.grownBy w' (some g) := by
  have hlt := h.lt
  have k0 : Cur m g (w.alloc (.cells #[.int .i64 0, .int .i64 0, .int .i64 0, .int .i64 0] 36)) := kA h
  go_enter Tryd.func47, Tryd.ntmps47
  go_wp2_with fail
  refine (proper_any _ g _ k0 (by omega)).mono ?_
  rintro e1 w1 ⟨⟨⟨a, b, c, d⟩, rfl, p1, q1⟩, k1, g1⟩
  obtain ⟨hC1, hF1⟩ := gcell g1 hlt
  have hS1 := g1.size
  simp at hS1
  simp only at p1
  have hS1_w : w.heap.size < w1.heap.size := by omega
  have hM1_1 : w.heap.size < w1.heap.size + 1 := by omega
  have hN1 : w.heap.size ≤ w1.heap.size := by omega
  go_wp2_with fail
  refine (pick_any _ g _ _ (kA k1) (by omega) (by omega)).mono ?_
  rintro e2 w2 ⟨⟨x2, rfl, p2, q2⟩, k2, g2⟩
  obtain ⟨hC2, hF2⟩ := gcell g2 hlt
  have hS2 := g2.size
  (try simp at hS2)
  (try have hS2_w : w.heap.size < w2.heap.size := by omega)
  (try have hM2_1 : w.heap.size < w2.heap.size + 1 := by omega)
  (try have hS2_v : w.heap.size + 1 < w2.heap.size := by omega)
  (try have hS2_u : w.heap.size + 1 + 1 < w2.heap.size := by omega)
  by_cases c0 : x2 = 0
  · subst c0
    go_wp2_with fail
    refine (number_any _ g _ k2 (by omega)).mono ?_
    rintro e3 w3 ⟨⟨x3, rfl, p3, q3⟩, k3, g3⟩
    obtain ⟨hC3, hF3⟩ := gcell g3 hlt
    have hS3 := g3.size
    (try simp at hS3)
    (try have hS3_w : w.heap.size < w3.heap.size := by omega)
    (try have hM3_1 : w.heap.size < w3.heap.size + 1 := by omega)
    (try have hS3_v : w.heap.size + 1 < w3.heap.size := by omega)
    (try have hS3_u : w.heap.size + 1 + 1 < w3.heap.size := by omega)
    go_wp2_with fail
    refine (number_any _ g _ k3 (by omega)).mono ?_
    rintro e4 w4 ⟨⟨x4, rfl, p4, q4⟩, k4, g4⟩
    obtain ⟨hC4, hF4⟩ := gcell g4 hlt
    have hS4 := g4.size
    (try simp at hS4)
    (try have hS4_w : w.heap.size < w4.heap.size := by omega)
    (try have hM4_1 : w.heap.size < w4.heap.size + 1 := by omega)
    (try have hS4_v : w.heap.size + 1 < w4.heap.size := by omega)
    (try have hS4_u : w.heap.size + 1 + 1 < w4.heap.size := by omega)
    go_wp2_with fail
    refine (number_any _ g _ k4 (by omega)).mono ?_
    rintro e5 w5 ⟨⟨x5, rfl, p5, q5⟩, k5, g5⟩
    obtain ⟨hC5, hF5⟩ := gcell g5 hlt
    have hS5 := g5.size
    (try simp at hS5)
    (try have hS5_w : w.heap.size < w5.heap.size := by omega)
    (try have hM5_1 : w.heap.size < w5.heap.size + 1 := by omega)
    (try have hS5_v : w.heap.size + 1 < w5.heap.size := by omega)
    (try have hS5_u : w.heap.size + 1 + 1 < w5.heap.size := by omega)
    go_wp2_with fail
    refine (number_any _ g _ k5 (by omega)).mono ?_
    rintro e6 w6 ⟨⟨x6, rfl, p6, q6⟩, k6, g6⟩
    obtain ⟨hC6, hF6⟩ := gcell g6 hlt
    have hS6 := g6.size
    (try simp at hS6)
    (try have hS6_w : w.heap.size < w6.heap.size := by omega)
    (try have hM6_1 : w.heap.size < w6.heap.size + 1 := by omega)
    (try have hS6_v : w.heap.size + 1 < w6.heap.size := by omega)
    (try have hS6_u : w.heap.size + 1 + 1 < w6.heap.size := by omega)
    go_wp2_with fail
    refine bodyPost_ret (v := .agg #[.int .i64 x3, .int .i64 x4, .int .i64 x5, .int .i64 x6]) (by go_light; simp [results, Tryd.results47, go_sem, *]) rfl ⟨⟨(x3, x4, x5, x6), rfl, ⟨p3, p4, p5, p6⟩, trivial⟩, ?_, ?_⟩
    · repeat (first | with_reducible refine kA ?_ | ((with_reducible refine kS ?_ ?_); focus omega))
      exact Cur.mono (by assumption) (by omega)
    · repeat (first | with_reducible assumption | with_reducible exact grown_id _ _ | with_reducible refine gA ?_ | ((with_reducible refine gS ?_ ?_); focus (first | omega | (simp <;> omega))) | with_reducible refine gT (by assumption) ?_)
  by_cases c1 : x2 = 1
  · subst c1
    go_wp2_with fail
    refine bodyPost_ret (v := .agg #[.int .i64 b, .int .i64 a, .int .i64 d, .int .i64 c]) (by go_light; simp [results, Tryd.results47, go_sem, *]) rfl ⟨⟨(b, a, d, c), rfl, ⟨p1.2.1, p1.1, p1.2.2.2, p1.2.2.1⟩, trivial⟩, ?_, ?_⟩
    · repeat (first | with_reducible refine kA ?_ | ((with_reducible refine kS ?_ ?_); focus omega))
      exact Cur.mono (by assumption) (by omega)
    · repeat (first | with_reducible assumption | with_reducible exact grown_id _ _ | with_reducible refine gA ?_ | ((with_reducible refine gS ?_ ?_); focus (first | omega | (simp <;> omega))) | with_reducible refine gT (by assumption) ?_)
  by_cases c2 : x2 = 2
  · subst c2
    go_wp2_with fail
    have hT2 : w1.heap.size < w2.heap.size := by omega
    have f21 : w2.frozen? ⟨w1.heap.size, 1, none⟩ = false := by rw [hF2 _ _ hN1 (by simp)]; simp [go_sem]
    have r21 : w2.cell? ⟨w1.heap.size, 1, none⟩ = some (.int .i64 b) := by rw [hC2 _ _ hN1 (by simp)]; simp [go_sem]
    go_region_with (go_at_call 68; refine (pick_any _ g _ _ (k2.later (by repeat (first | with_reducible exact Below.refl _ _ | with_reducible assumption | ((with_reducible refine blA ?_ ?_); (focus (first | omega | (simp <;> omega)))) | (with_reducible refine blD ?_) | (with_reducible refine blN ?_) | ((with_reducible refine blS ?_ ?_); (focus (first | omega | (simp <;> omega)))) | ((with_reducible refine blT (by assumption) ?_ ?_); (focus (first | omega | (simp <;> omega))))))) (by omega) (by omega)).mono ?_; rintro e3 w3 ⟨⟨x3, rfl, p3, q3⟩, k3, g3⟩; obtain ⟨hC3, hF3⟩ := gcell g3 hlt; have hS3 := g3.size; (try simp at hS3); have r31 : w3.cell? ⟨w1.heap.size, 1, none⟩ = some (.int .i64 b) := by { rw [hC3 _ _ hN1 (by simp; omega)]; simpa using r21 }; have f31 : w3.frozen? ⟨w1.heap.size, 1, none⟩ = false := by { rw [hF3 _ _ hN1 (by simp; omega)]; simpa using f21 }; have hw3 : wrap64 (1 + x3) = 1 + x3 := by { unfold wrap64; omega })
    all_goals
      have g3' := grown_then (grown_of (Below.refl w2.heap.size w2).drew (some g)) g3
      have hT3 : w1.heap.size < w3.heap.size := by omega
      have hL3 : w.heap.size < w3.heap.size := by omega
      have hN3 : ¬ w1.heap.size = w.heap.size := by omega
      have hN3' : ¬ w.heap.size = w1.heap.size := by omega
      have r30 : w3.cell? ⟨w1.heap.size, 0, none⟩ = some (.int .i64 a) := by rw [hC3 _ _ hN1 (by simp; omega)]; simp [hC2 _ _ hN1, hT2, go_sem]
      have r32 : w3.cell? ⟨w1.heap.size, 2, none⟩ = some (.int .i64 c) := by rw [hC3 _ _ hN1 (by simp; omega)]; simp [hC2 _ _ hN1, hT2, go_sem]
      have r33 : w3.cell? ⟨w1.heap.size, 3, none⟩ = some (.int .i64 d) := by rw [hC3 _ _ hN1 (by simp; omega)]; simp [hC2 _ _ hN1, hT2, go_sem]
      have z3 : ∀ o, w3.cell? ⟨w.heap.size, o, none⟩ = (#[.int .i64 0, .int .i64 0, .int .i64 0, .int .i64 0] : Array Value)[o]? := fun o => by rw [hC3 _ _ (Nat.le_refl _) (by simp; omega)]; simp [hC2 _ _ (Nat.le_refl _), hC1 _ _ (Nat.le_refl _), hS1_w, hM1_1, go_sem]
      have zf3 : ∀ o, w3.frozen? ⟨w.heap.size, o, none⟩ = false := fun o => by rw [hF3 _ _ (Nat.le_refl _) (by simp; omega)]; simp [hF2 _ _ (Nat.le_refl _), hF1 _ _ (Nat.le_refl _), hS1_w, hM1_1, go_sem]
      clear g3
      go_wp2_with fail
      refine bodyPost_ret (v := .agg #[.int .i64 a, .int .i64 (wrap64 (b + (1 + x3))), .int .i64 c, .int .i64 d]) (by go_light; simp [results, Tryd.results47, go_sem, *]) rfl ⟨⟨(a, wrap64 (b + (1 + x3)), c, d), rfl, ⟨p1.1, wrap64_I _, p1.2.2.1, p1.2.2.2⟩, trivial⟩, ?_, ?_⟩
      · repeat (first | with_reducible refine kA ?_ | ((with_reducible refine kS ?_ ?_); focus omega))
        exact Cur.mono (by assumption) (by omega)
      · repeat (first | with_reducible assumption | with_reducible exact grown_id _ _ | with_reducible refine gA ?_ | ((with_reducible refine gS ?_ ?_); focus (first | omega | (simp <;> omega))) | with_reducible refine gT (by assumption) ?_)
  have d0 : (x2 == 0) = false := by simp [c0]
  have d1 : (x2 == 1) = false := by simp [c1]
  have d2 : (x2 == 2) = false := by simp [c2]
  clear c0 c1 c2
  go_wp2_with fail
  refine bodyPost_ret (v := .agg #[.int .i64 a, .int .i64 b, .int .i64 c, .int .i64 d]) (by go_light; simp [results, Tryd.results47, go_sem, *]) rfl ⟨⟨(a, b, c, d), rfl, p1, trivial⟩, ?_, ?_⟩
  · repeat (first | with_reducible refine kA ?_ | ((with_reducible refine kS ?_ ?_); focus omega))
    exact Cur.mono (by assumption) (by omega)
  · repeat (first | with_reducible assumption | with_reducible exact grown_id _ _ | with_reducible refine gA ?_ | ((with_reducible refine gS ?_ ?_); focus (first | omega | (simp <;> omega))) | with_reducible refine gT (by assumption) ?_)
end Go.Proofs.YtlfbanoabipacaaDoor
