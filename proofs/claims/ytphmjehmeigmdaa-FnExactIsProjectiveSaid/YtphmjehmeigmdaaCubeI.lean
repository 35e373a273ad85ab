/-
  The three forms of a cube: CubeForms, and the walk of its law.
-/
import Derived.Test.YtphmjehmeigmdaaCubeH
import Derived.Test.YtphmjehmeigmdaaCubeL
import Derived.Deep.RegionHeld3
namespace Go.Proofs.Ytphmjehmeigmdaa
open Go.RowKit
attribute [local simp, local go_sem] past_cell past_frozen past_tape
set_option maxRecDepth 100000 in
set_option maxHeartbeats 4000000 in
theorem implCubeForms_any (x0 x1 x2 x3 x4 x5 x6 x7 : Int) (w : World) :
    Calls Try.prog 24 #[.agg #[.int .i64 x0, .int .i64 x1, .int .i64 x2, .int .i64 x3, .int .i64 x4, .int .i64 x5, .int .i64 x6, .int .i64 x7]] w fun e w' => e = .returned (.tuple #[.agg #[.int .i64 (cz (cubeB x0 x1 x2 x3 x4 x5 x6 x7) (cfA x0 x1 x2 x3)), .int .i64 (cz (cubeB x0 x1 x2 x3 x4 x5 x6 x7) (cfB x0 x1 x2 x3 x4 x5 x6 x7)), .int .i64 (cz (cubeB x0 x1 x2 x3 x4 x5 x6 x7) (cfC x4 x5 x6 x7))], .agg #[.int .i64 (cz (cubeB x0 x1 x2 x3 x4 x5 x6 x7) (cfA x0 x2 x4 x6)), .int .i64 (cz (cubeB x0 x1 x2 x3 x4 x5 x6 x7) (cfB x0 x2 x4 x6 x1 x3 x5 x7)), .int .i64 (cz (cubeB x0 x1 x2 x3 x4 x5 x6 x7) (cfC x1 x3 x5 x7))], .agg #[.int .i64 (cz (cubeB x0 x1 x2 x3 x4 x5 x6 x7) (cfA x0 x4 x1 x5)), .int .i64 (cz (cubeB x0 x1 x2 x3 x4 x5 x6 x7) (cfB x0 x4 x1 x5 x2 x6 x3 x7)), .int .i64 (cz (cubeB x0 x1 x2 x3 x4 x5 x6 x7) (cfC x2 x6 x3 x7))], .bool (cubeB x0 x1 x2 x3 x4 x5 x6 x7)]) ∧ Below w.heap.size w w' := by
  by_cases c1 : cubeB x0 x1 x2 x3 x4 x5 x6 x7 = true
  · have h0 : B5 x0 := by have := cubeB_bd c1; unfold B5; omega
    have h1 : B5 x1 := by have := cubeB_bd c1; unfold B5; omega
    have h2 : B5 x2 := by have := cubeB_bd c1; unfold B5; omega
    have h3 : B5 x3 := by have := cubeB_bd c1; unfold B5; omega
    have h4 : B5 x4 := by have := cubeB_bd c1; unfold B5; omega
    have h5 : B5 x5 := by have := cubeB_bd c1; unfold B5; omega
    have h6 : B5 x6 := by have := cubeB_bd c1; unfold B5; omega
    have h7 : B5 x7 := by have := cubeB_bd c1; unfold B5; omega
    have HC1 := Lib.hid c1
    go_enter Try.func24, Try.ntmps24
    go_wp2_with fail
    refine (IsCube_any _ _ _ _ _ _ _ _ _).mono ?_
    rintro e1 w1 ⟨rfl, hB1⟩
    obtain ⟨hC1, hF1⟩ := bcell hB1
    have hS1 := hB1.size
    (try simp at hS1)
    (try have hS1_w0 : w.heap.size < w1.heap.size := by omega)
    (try have hS1_w1 : w.heap.size + 1 < w1.heap.size := by omega)
    (try have hS1_w2 : w.heap.size + 1 + 1 < w1.heap.size := by omega)
    (try have hS1_w3 : w.heap.size + 1 + 1 + 1 < w1.heap.size := by omega)
    (try have hS1_w4 : w.heap.size + 1 + 1 + 1 + 1 < w1.heap.size := by omega)
    (try have hL1_w0 : w.heap.size ≤ w1.heap.size := by omega)
    (try have hL1_w1 : w.heap.size + 1 ≤ w1.heap.size := by omega)
    (try have hL1_w2 : w.heap.size + 1 + 1 ≤ w1.heap.size := by omega)
    (try have hL1_w3 : w.heap.size + 1 + 1 + 1 ≤ w1.heap.size := by omega)
    (try have hL1_w : w.heap.size ≤ w1.heap.size + 1 := by omega)
    (try have hM1_1 : w.heap.size < w1.heap.size + 1 := by omega)
    (try have hM1_2 : w.heap.size < w1.heap.size + 1 + 1 := by omega)
    (try have hM1_3 : w.heap.size < w1.heap.size + 1 + 1 + 1 := by omega)
    go_wp2_with fail
    refine (entries_any _ _ _ _ _ _ _ _ _).mono ?_
    rintro e2 w2 ⟨rfl, hB2⟩
    obtain ⟨hC2, hF2⟩ := bcell hB2
    have hS2 := hB2.size
    (try simp at hS2)
    (try have hS2_w0 : w.heap.size < w2.heap.size := by omega)
    (try have hS2_w1 : w.heap.size + 1 < w2.heap.size := by omega)
    (try have hS2_w2 : w.heap.size + 1 + 1 < w2.heap.size := by omega)
    (try have hS2_w3 : w.heap.size + 1 + 1 + 1 < w2.heap.size := by omega)
    (try have hS2_w4 : w.heap.size + 1 + 1 + 1 + 1 < w2.heap.size := by omega)
    (try have hL2_w0 : w.heap.size ≤ w2.heap.size := by omega)
    (try have hL2_w1 : w.heap.size + 1 ≤ w2.heap.size := by omega)
    (try have hL2_w2 : w.heap.size + 1 + 1 ≤ w2.heap.size := by omega)
    (try have hL2_w3 : w.heap.size + 1 + 1 + 1 ≤ w2.heap.size := by omega)
    (try have hL2_w : w.heap.size ≤ w2.heap.size + 1 := by omega)
    (try have hM2_1 : w.heap.size < w2.heap.size + 1 := by omega)
    (try have hM2_2 : w.heap.size < w2.heap.size + 1 + 1 := by omega)
    (try have hM2_3 : w.heap.size < w2.heap.size + 1 + 1 + 1 := by omega)
    (try have hN2_1_00 : w1.heap.size < w2.heap.size := by omega)
    (try have hN2_1_01 : w1.heap.size < w2.heap.size + 1 := by omega)
    (try have hN2_1_02 : w1.heap.size < w2.heap.size + 1 + 1 := by omega)
    (try have hN2_1_10 : w1.heap.size + 1 < w2.heap.size := by omega)
    (try have hN2_1_11 : w1.heap.size + 1 < w2.heap.size + 1 := by omega)
    (try have hN2_1_12 : w1.heap.size + 1 < w2.heap.size + 1 + 1 := by omega)
    (try have hN2_1_20 : w1.heap.size + 1 + 1 < w2.heap.size := by omega)
    (try have hN2_1_21 : w1.heap.size + 1 + 1 < w2.heap.size + 1 := by omega)
    (try have hN2_1_22 : w1.heap.size + 1 + 1 < w2.heap.size + 1 + 1 := by omega)
    (try have hL2_1 : w1.heap.size ≤ w2.heap.size := by omega)
    (try have hS2_1 : w1.heap.size < w2.heap.size := by omega)
    (try have hS2_1' : w1.heap.size + 1 < w2.heap.size := by omega)
    go_wp2_with fail
    refine wp_region_past_tail 6 (by kernel_rfl) (by kernel_rfl) ?_
    simp only [List.take_succ_cons, List.take_zero, List.drop_succ_cons, List.drop_zero]
    repeat (first | go_big_quiet_skip | (go_big_quiet_want; go_big_quiet_op; first | go_big_quiet_on | (apply Exists.intro; refine ⟨fun _ => ?_, ?_⟩; (focus ((go_at_call 36; (first | (with_reducible exact past_of (form1 _ _ _ _ _ _ _ _ _ h0 h1 h2 h3 h4 h5 h6 h7)) | (with_reducible exact past_of (form2 _ _ _ _ _ _ _ _ _ h0 h1 h2 h3 h4 h5 h6 h7)) | (with_reducible exact past_of (form3 _ _ _ _ _ _ _ _ _ h0 h1 h2 h3 h4 h5 h6 h7)))))); go_big_quiet_on)))
    refine wpQuiet_nil ?_
    intro w3 hw'
    have hB3 := past_below hw'
    clear hw'
    obtain ⟨hC3, hF3⟩ := bcell hB3
    have hS3 := hB3.size
    (try simp at hS3)
    (try have hS3_w0 : w.heap.size < w3.heap.size := by omega)
    (try have hS3_w1 : w.heap.size + 1 < w3.heap.size := by omega)
    (try have hS3_w2 : w.heap.size + 1 + 1 < w3.heap.size := by omega)
    (try have hS3_w3 : w.heap.size + 1 + 1 + 1 < w3.heap.size := by omega)
    (try have hS3_w4 : w.heap.size + 1 + 1 + 1 + 1 < w3.heap.size := by omega)
    (try have hS3_1 : w1.heap.size < w3.heap.size := by omega)
    (try have hS3_2 : w2.heap.size < w3.heap.size := by omega)
    (try have hS3_1' : w1.heap.size + 1 < w3.heap.size := by omega)
    (try have hS3_2' : w2.heap.size + 1 < w3.heap.size := by omega)
    go_wp2
    have hR : ∀ o, (w3.cell? ⟨w.heap.size + 1, o, none⟩ = (#[.int .i64 0, .int .i64 0, .int .i64 0] : Array Value)[o]?) ∧ (w3.cell? ⟨w.heap.size + 1 + 1, o, none⟩ = (#[.int .i64 0, .int .i64 0, .int .i64 0] : Array Value)[o]?) ∧ (w3.cell? ⟨w.heap.size + 1 + 1 + 1, o, none⟩ = (#[.int .i64 0, .int .i64 0, .int .i64 0] : Array Value)[o]?) := by
      intro o
      rw [hC3 _ o (by first | omega | (simp; omega)), hC3 _ o (by first | omega | (simp; omega)), hC3 _ o (by first | omega | (simp; omega)), cell_alloc_old _ _ _ _ (by omega), cell_alloc_old _ _ _ _ (by omega), cell_alloc_old _ _ _ _ (by omega), hC2 _ o (by omega), hC2 _ o (by omega), hC2 _ o (by omega), hC1 _ o (by simp), hC1 _ o (by simp), hC1 _ o (by simp)]
      simp [go_sem]
    refine bodyPost_ret (v := .tuple #[.agg #[.int .i64 (cfA x0 x1 x2 x3), .int .i64 (cfB x0 x1 x2 x3 x4 x5 x6 x7), .int .i64 (cfC x4 x5 x6 x7)], .agg #[.int .i64 (cfA x0 x2 x4 x6), .int .i64 (cfB x0 x2 x4 x6 x1 x3 x5 x7), .int .i64 (cfC x1 x3 x5 x7)], .agg #[.int .i64 (cfA x0 x4 x1 x5), .int .i64 (cfB x0 x4 x1 x5 x2 x6 x3 x7), .int .i64 (cfC x2 x6 x3 x7)], .bool true]) (by go_light; clear hC1 hC2 hC3 hF1 hF2 hF3 hB1 hB2 hB3; simp [results, Try.results24, go_sem, hR]) rfl ⟨by rw [HC1.out]; rfl, ?_⟩
    repeat (first | with_reducible exact Below.refl _ _ | with_reducible assumption | ((with_reducible refine blA ?_ ?_); (focus (first | omega | (simp <;> omega)))) | (with_reducible refine blD ?_) | (with_reducible refine blN ?_) | ((with_reducible refine blS ?_ ?_); (focus (first | omega | (simp <;> omega)))) | ((with_reducible refine blT (by assumption) ?_ ?_); (focus (first | omega | (simp <;> omega)))))
  · have c1' : cubeB x0 x1 x2 x3 x4 x5 x6 x7 = false := by simpa using c1
    clear c1
    go_enter Try.func24, Try.ntmps24
    go_wp2_with (go_at_call 13; refine (IsCube_any _ _ _ _ _ _ _ _ _).mono ?_; rintro e w' ⟨rfl, hB⟩; obtain ⟨hC, hF⟩ := bcell hB; have hS := hB.size; (try simp at hS); (try have hSl := Nat.lt_of_succ_le hS); (try have hS0 : w.heap.size < w'.heap.size := by omega); (try have hS1 : w.heap.size + 1 < w'.heap.size := by omega); (try have hS2 : w.heap.size + 1 + 1 < w'.heap.size := by omega); (try have hS3 : w.heap.size + 1 + 1 + 1 < w'.heap.size := by omega))
    refine bodyPost_ret (v := .tuple #[.agg #[.int .i64 0, .int .i64 0, .int .i64 0], .agg #[.int .i64 0, .int .i64 0, .int .i64 0], .agg #[.int .i64 0, .int .i64 0, .int .i64 0], .bool false]) (by go_light; simp [results, Try.results24, go_sem, *]) rfl ⟨by rw [c1']; rfl, ?_⟩
    repeat (first | with_reducible exact Below.refl _ _ | with_reducible assumption | ((with_reducible refine blA ?_ ?_); (focus (first | omega | (simp <;> omega)))) | (with_reducible refine blD ?_) | (with_reducible refine blN ?_) | ((with_reducible refine blS ?_ ?_); (focus (first | omega | (simp <;> omega)))) | ((with_reducible refine blT (by assumption) ?_ ?_); (focus (first | omega | (simp <;> omega)))))

set_option maxRecDepth 100000 in
set_option maxHeartbeats 1000000 in
theorem cuForms_any (x0 x1 x2 x3 x4 x5 x6 x7 : Int) (w : World) (h0 : B5 x0) (h1 : B5 x1) (h2 : B5 x2) (h3 : B5 x3) (h4 : B5 x4) (h5 : B5 x5) (h6 : B5 x6) (h7 : B5 x7) :
    Calls Try.prog 43 #[.agg #[.int .i64 x0, .int .i64 x1, .int .i64 x2, .int .i64 x3, .int .i64 x4, .int .i64 x5, .int .i64 x6, .int .i64 x7]] w fun e w' => ∃ w1, Below w.heap.size w w1 ∧ e = .returned (.slice (some ⟨w1.heap.size, 0, none⟩) 3 3) ∧ w1.alloc (.cells #[.int .i64 (cfA x0 x1 x2 x3), .int .i64 (cfB x0 x1 x2 x3 x4 x5 x6 x7), .int .i64 (cfC x4 x5 x6 x7), .int .i64 (cfA x0 x2 x4 x6), .int .i64 (cfB x0 x2 x4 x6 x1 x3 x5 x7), .int .i64 (cfC x1 x3 x5 x7), .int .i64 (cfA x0 x4 x1 x5), .int .i64 (cfB x0 x4 x1 x5 x2 x6 x3 x7), .int .i64 (cfC x2 x6 x3 x7)] 36) = w' := by
  go_enter Try.func43, Try.ntmps43
  go_wp2_with fail
  refine wp_region_past_tail 9 (by kernel_rfl) (by kernel_rfl) ?_
  simp only [List.take_succ_cons, List.take_zero, List.drop_succ_cons, List.drop_zero]
  repeat (first | go_big_quiet_skip | (go_big_quiet_want; go_big_quiet_op; first | go_big_quiet_on | (apply Exists.intro; refine ⟨fun _ => ?_, ?_⟩; (focus (first | (go_at_call 38; exact past_of (cuTurn_any _ _ _ _ _ _ _ _ _)) | (go_at_call 35; (first | (with_reducible exact past_of (cuForm_any _ _ _ _ _ _ _ _ _ h0 h1 h2 h3 h4 h5 h6 h7)) | (with_reducible exact past_of (cuForm_any _ _ _ _ _ _ _ _ _ h0 h2 h4 h6 h1 h3 h5 h7)) | (with_reducible exact past_of (cuForm_any _ _ _ _ _ _ _ _ _ h0 h4 h1 h5 h2 h6 h3 h7)))))); go_big_quiet_on)))
  refine wpQuiet_nil ?_
  intro w1 hw'
  have hB1 := past_below hw'
  clear hw'
  obtain ⟨hC1, hF1⟩ := bcell hB1
  have hS1 := hB1.size
  (try simp at hS1)
  (try have hS1_w0 : w.heap.size < w1.heap.size := by omega)
  (try have hS1_w1 : w.heap.size + 1 < w1.heap.size := by omega)
  (try have hS1_w2 : w.heap.size + 1 + 1 < w1.heap.size := by omega)
  (try have hS1_w3 : w.heap.size + 1 + 1 + 1 < w1.heap.size := by omega)
  (try have hS1_w4 : w.heap.size + 1 + 1 + 1 + 1 < w1.heap.size := by omega)
  go_wp2
  go_ret
  refine ⟨w1, ?_, rfl, rfl⟩
  repeat (first | with_reducible exact Below.refl _ _ | with_reducible assumption | ((with_reducible refine blA ?_ ?_); (focus (first | omega | (simp <;> omega)))) | (with_reducible refine blD ?_) | (with_reducible refine blN ?_) | ((with_reducible refine blS ?_ ?_); (focus (first | omega | (simp <;> omega)))) | ((with_reducible refine blT (by assumption) ?_ ?_); (focus (first | omega | (simp <;> omega)))))

set_option maxRecDepth 100000 in
set_option maxHeartbeats 4000000 in
theorem specCubeForms_any (x0 x1 x2 x3 x4 x5 x6 x7 : Int) (w : World) :
    Calls Try.prog 23 #[.agg #[.int .i64 x0, .int .i64 x1, .int .i64 x2, .int .i64 x3, .int .i64 x4, .int .i64 x5, .int .i64 x6, .int .i64 x7]] w fun e w' => e = .returned (.tuple #[.agg #[.int .i64 (cz (cubeB x0 x1 x2 x3 x4 x5 x6 x7) (cfA x0 x1 x2 x3)), .int .i64 (cz (cubeB x0 x1 x2 x3 x4 x5 x6 x7) (cfB x0 x1 x2 x3 x4 x5 x6 x7)), .int .i64 (cz (cubeB x0 x1 x2 x3 x4 x5 x6 x7) (cfC x4 x5 x6 x7))], .agg #[.int .i64 (cz (cubeB x0 x1 x2 x3 x4 x5 x6 x7) (cfA x0 x2 x4 x6)), .int .i64 (cz (cubeB x0 x1 x2 x3 x4 x5 x6 x7) (cfB x0 x2 x4 x6 x1 x3 x5 x7)), .int .i64 (cz (cubeB x0 x1 x2 x3 x4 x5 x6 x7) (cfC x1 x3 x5 x7))], .agg #[.int .i64 (cz (cubeB x0 x1 x2 x3 x4 x5 x6 x7) (cfA x0 x4 x1 x5)), .int .i64 (cz (cubeB x0 x1 x2 x3 x4 x5 x6 x7) (cfB x0 x4 x1 x5 x2 x6 x3 x7)), .int .i64 (cz (cubeB x0 x1 x2 x3 x4 x5 x6 x7) (cfC x2 x6 x3 x7))], .bool (cubeB x0 x1 x2 x3 x4 x5 x6 x7)]) ∧ Below w.heap.size w w' := by
  by_cases c1 : cubeB x0 x1 x2 x3 x4 x5 x6 x7 = true
  · have h0 : B5 x0 := by have := cubeB_bd c1; unfold B5; omega
    have h1 : B5 x1 := by have := cubeB_bd c1; unfold B5; omega
    have h2 : B5 x2 := by have := cubeB_bd c1; unfold B5; omega
    have h3 : B5 x3 := by have := cubeB_bd c1; unfold B5; omega
    have h4 : B5 x4 := by have := cubeB_bd c1; unfold B5; omega
    have h5 : B5 x5 := by have := cubeB_bd c1; unfold B5; omega
    have h6 : B5 x6 := by have := cubeB_bd c1; unfold B5; omega
    have h7 : B5 x7 := by have := cubeB_bd c1; unfold B5; omega
    have HC1 := Lib.hid c1
    go_enter Try.func23, Try.ntmps23
    go_wp2_with fail
    refine (cuIn_any _ _ _ _ _ _ _ _ _).mono ?_
    rintro e1 w1 ⟨rfl, hB1⟩
    obtain ⟨hC1, hF1⟩ := bcell hB1
    have hS1 := hB1.size
    (try simp at hS1)
    (try have hS1_w0 : w.heap.size < w1.heap.size := by omega)
    (try have hS1_w1 : w.heap.size + 1 < w1.heap.size := by omega)
    (try have hS1_w2 : w.heap.size + 1 + 1 < w1.heap.size := by omega)
    (try have hS1_w3 : w.heap.size + 1 + 1 + 1 < w1.heap.size := by omega)
    (try have hS1_w4 : w.heap.size + 1 + 1 + 1 + 1 < w1.heap.size := by omega)
    (try have hL1_w0 : w.heap.size ≤ w1.heap.size := by omega)
    (try have hL1_w1 : w.heap.size + 1 ≤ w1.heap.size := by omega)
    (try have hL1_w2 : w.heap.size + 1 + 1 ≤ w1.heap.size := by omega)
    (try have hL1_w3 : w.heap.size + 1 + 1 + 1 ≤ w1.heap.size := by omega)
    (try have hL1_w : w.heap.size ≤ w1.heap.size + 1 := by omega)
    (try have hM1_1 : w.heap.size < w1.heap.size + 1 := by omega)
    (try have hM1_2 : w.heap.size < w1.heap.size + 1 + 1 := by omega)
    (try have hM1_3 : w.heap.size < w1.heap.size + 1 + 1 + 1 := by omega)
    go_wp2_with fail
    refine (cuForms_any _ _ _ _ _ _ _ _ _ h0 h1 h2 h3 h4 h5 h6 h7).mono ?_
    rintro e2 w' ⟨w2, hB2, rfl, rfl⟩
    have hS2 := hB2.size
    obtain ⟨hC2, hF2⟩ := bcell hB2
    have hS2_w1 : w.heap.size + 1 < w2.heap.size := by omega
    have hS2_w2 : w.heap.size + 1 + 1 < w2.heap.size := by omega
    have hS2_w3 : w.heap.size + 1 + 1 + 1 < w2.heap.size := by omega
    have hR : ∀ o, (w2.cell? ⟨w.heap.size + 1, o, none⟩ = (#[.int .i64 0, .int .i64 0, .int .i64 0] : Array Value)[o]?) ∧ (w2.cell? ⟨w.heap.size + 1 + 1, o, none⟩ = (#[.int .i64 0, .int .i64 0, .int .i64 0] : Array Value)[o]?) ∧ (w2.cell? ⟨w.heap.size + 1 + 1 + 1, o, none⟩ = (#[.int .i64 0, .int .i64 0, .int .i64 0] : Array Value)[o]?) := by
      intro o
      rw [hC2 _ o (by omega), hC2 _ o (by omega), hC2 _ o (by omega), hC1 _ o (by simp), hC1 _ o (by simp), hC1 _ o (by simp)]
      simp [go_sem]
    have hFR : ∀ o, (w2.frozen? ⟨w.heap.size + 1, o, none⟩ = false) ∧ (w2.frozen? ⟨w.heap.size + 1 + 1, o, none⟩ = false) ∧ (w2.frozen? ⟨w.heap.size + 1 + 1 + 1, o, none⟩ = false) := by
      intro o
      rw [hF2 _ o (by omega), hF2 _ o (by omega), hF2 _ o (by omega), hF1 _ o (by simp), hF1 _ o (by simp), hF1 _ o (by simp)]
      simp [go_sem]
    have HB1 := Lib.hid hB1
    have HB2 := Lib.hid hB2
    clear hC1 hC2 hF1 hF2 hB1 hB2
    go_wp2_with fail
    go_region
    go_wp2
    have hB1 := HB1.out
    have hB2 := HB2.out
    refine bodyPost_ret (v := .tuple #[.agg #[.int .i64 (cfA x0 x1 x2 x3), .int .i64 (cfB x0 x1 x2 x3 x4 x5 x6 x7), .int .i64 (cfC x4 x5 x6 x7)], .agg #[.int .i64 (cfA x0 x2 x4 x6), .int .i64 (cfB x0 x2 x4 x6 x1 x3 x5 x7), .int .i64 (cfC x1 x3 x5 x7)], .agg #[.int .i64 (cfA x0 x4 x1 x5), .int .i64 (cfB x0 x4 x1 x5 x2 x6 x3 x7), .int .i64 (cfC x2 x6 x3 x7)], .bool true]) (by go_light; simp [results, Try.results23, go_sem, hR, hS2_w1, hS2_w2, hS2_w3]) rfl ⟨by rw [HC1.out]; rfl, ?_⟩
    repeat (first | with_reducible exact Below.refl _ _ | with_reducible assumption | ((with_reducible refine blA ?_ ?_); (focus (first | omega | (simp <;> omega)))) | (with_reducible refine blD ?_) | (with_reducible refine blN ?_) | ((with_reducible refine blS ?_ ?_); (focus (first | omega | (simp <;> omega)))) | ((with_reducible refine blT (by assumption) ?_ ?_); (focus (first | omega | (simp <;> omega)))))
  · have c1' : cubeB x0 x1 x2 x3 x4 x5 x6 x7 = false := by simpa using c1
    clear c1
    go_enter Try.func23, Try.ntmps23
    go_wp2_with (go_at_call 31; refine (cuIn_any _ _ _ _ _ _ _ _ _).mono ?_; rintro e w' ⟨rfl, hB⟩; obtain ⟨hC, hF⟩ := bcell hB; have hS := hB.size; (try simp at hS); (try have hSl := Nat.lt_of_succ_le hS); (try have hS0 : w.heap.size < w'.heap.size := by omega); (try have hS1 : w.heap.size + 1 < w'.heap.size := by omega); (try have hS2 : w.heap.size + 1 + 1 < w'.heap.size := by omega); (try have hS3 : w.heap.size + 1 + 1 + 1 < w'.heap.size := by omega))
    refine bodyPost_ret (v := .tuple #[.agg #[.int .i64 0, .int .i64 0, .int .i64 0], .agg #[.int .i64 0, .int .i64 0, .int .i64 0], .agg #[.int .i64 0, .int .i64 0, .int .i64 0], .bool false]) (by go_light; simp [results, Try.results23, go_sem, *]) rfl ⟨by rw [c1']; rfl, ?_⟩
    repeat (first | with_reducible exact Below.refl _ _ | with_reducible assumption | ((with_reducible refine blA ?_ ?_); (focus (first | omega | (simp <;> omega)))) | (with_reducible refine blD ?_) | (with_reducible refine blN ?_) | ((with_reducible refine blS ?_ ?_); (focus (first | omega | (simp <;> omega)))) | ((with_reducible refine blT (by assumption) ?_ ?_); (focus (first | omega | (simp <;> omega)))))

set_option maxRecDepth 100000 in
set_option maxHeartbeats 2000000 in
theorem law_cubeForms (x0 x1 x2 x3 x4 x5 x6 x7 : Int) (w : World) (_ : I64 x0) (_ : I64 x1) (_ : I64 x2) (_ : I64 x3) (_ : I64 x4) (_ : I64 x5) (_ : I64 x6) (_ : I64 x7) :
    Calls Try.prog 8 #[.agg #[.int .i64 x0, .int .i64 x1, .int .i64 x2, .int .i64 x3, .int .i64 x4, .int .i64 x5, .int .i64 x6, .int .i64 x7]] w fun e w' => e = .returned (.bool true) ∧ Below w.heap.size w w' := by
  go_enter Try.func8, Try.ntmps8
  go_wp2_with fail
  refine (toCube_any _ _ _ _ _ _ _ _ _).mono ?_
  rintro e1 w1 ⟨rfl, hB1⟩
  obtain ⟨hC1, hF1⟩ := bcell hB1
  have hS1 := hB1.size
  (try simp at hS1)
  (try have hS1_w0 : w.heap.size < w1.heap.size := by omega)
  (try have hS1_w1 : w.heap.size + 1 < w1.heap.size := by omega)
  (try have hS1_w2 : w.heap.size + 1 + 1 < w1.heap.size := by omega)
  (try have hS1_w3 : w.heap.size + 1 + 1 + 1 < w1.heap.size := by omega)
  (try have hS1_w4 : w.heap.size + 1 + 1 + 1 + 1 < w1.heap.size := by omega)
  (try have hL1_w0 : w.heap.size ≤ w1.heap.size := by omega)
  (try have hL1_w1 : w.heap.size + 1 ≤ w1.heap.size := by omega)
  (try have hL1_w2 : w.heap.size + 1 + 1 ≤ w1.heap.size := by omega)
  (try have hL1_w3 : w.heap.size + 1 + 1 + 1 ≤ w1.heap.size := by omega)
  (try have hL1_w : w.heap.size ≤ w1.heap.size + 1 := by omega)
  (try have hM1_1 : w.heap.size < w1.heap.size + 1 := by omega)
  (try have hM1_2 : w.heap.size < w1.heap.size + 1 + 1 := by omega)
  (try have hM1_3 : w.heap.size < w1.heap.size + 1 + 1 + 1 := by omega)
  go_wp2_with fail
  refine (specCubeForms_any _ _ _ _ _ _ _ _ _).mono ?_
  rintro e2 w2 ⟨rfl, hB2⟩
  obtain ⟨hC2, hF2⟩ := bcell hB2
  have hS2 := hB2.size
  (try simp at hS2)
  (try have hS2_w0 : w.heap.size < w2.heap.size := by omega)
  (try have hS2_w1 : w.heap.size + 1 < w2.heap.size := by omega)
  (try have hS2_w2 : w.heap.size + 1 + 1 < w2.heap.size := by omega)
  (try have hS2_w3 : w.heap.size + 1 + 1 + 1 < w2.heap.size := by omega)
  (try have hS2_w4 : w.heap.size + 1 + 1 + 1 + 1 < w2.heap.size := by omega)
  (try have hL2_w0 : w.heap.size ≤ w2.heap.size := by omega)
  (try have hL2_w1 : w.heap.size + 1 ≤ w2.heap.size := by omega)
  (try have hL2_w2 : w.heap.size + 1 + 1 ≤ w2.heap.size := by omega)
  (try have hL2_w3 : w.heap.size + 1 + 1 + 1 ≤ w2.heap.size := by omega)
  (try have hL2_w : w.heap.size ≤ w2.heap.size + 1 := by omega)
  (try have hM2_1 : w.heap.size < w2.heap.size + 1 := by omega)
  (try have hM2_2 : w.heap.size < w2.heap.size + 1 + 1 := by omega)
  (try have hM2_3 : w.heap.size < w2.heap.size + 1 + 1 + 1 := by omega)
  (try have hN2_1_00 : w1.heap.size < w2.heap.size := by omega)
  (try have hN2_1_01 : w1.heap.size < w2.heap.size + 1 := by omega)
  (try have hN2_1_02 : w1.heap.size < w2.heap.size + 1 + 1 := by omega)
  (try have hN2_1_10 : w1.heap.size + 1 < w2.heap.size := by omega)
  (try have hN2_1_11 : w1.heap.size + 1 < w2.heap.size + 1 := by omega)
  (try have hN2_1_12 : w1.heap.size + 1 < w2.heap.size + 1 + 1 := by omega)
  (try have hN2_1_20 : w1.heap.size + 1 + 1 < w2.heap.size := by omega)
  (try have hN2_1_21 : w1.heap.size + 1 + 1 < w2.heap.size + 1 := by omega)
  (try have hN2_1_22 : w1.heap.size + 1 + 1 < w2.heap.size + 1 + 1 := by omega)
  (try have hL2_1 : w1.heap.size ≤ w2.heap.size := by omega)
  (try have hS2_1 : w1.heap.size < w2.heap.size := by omega)
  (try have hS2_1' : w1.heap.size + 1 < w2.heap.size := by omega)
  go_wp2_with fail
  refine (toCube_any _ _ _ _ _ _ _ _ _).mono ?_
  rintro e3 w3 ⟨rfl, hB3⟩
  obtain ⟨hC3, hF3⟩ := bcell hB3
  have hS3 := hB3.size
  (try simp at hS3)
  (try have hS3_w0 : w.heap.size < w3.heap.size := by omega)
  (try have hS3_w1 : w.heap.size + 1 < w3.heap.size := by omega)
  (try have hS3_w2 : w.heap.size + 1 + 1 < w3.heap.size := by omega)
  (try have hS3_w3 : w.heap.size + 1 + 1 + 1 < w3.heap.size := by omega)
  (try have hS3_w4 : w.heap.size + 1 + 1 + 1 + 1 < w3.heap.size := by omega)
  (try have hL3_w0 : w.heap.size ≤ w3.heap.size := by omega)
  (try have hL3_w1 : w.heap.size + 1 ≤ w3.heap.size := by omega)
  (try have hL3_w2 : w.heap.size + 1 + 1 ≤ w3.heap.size := by omega)
  (try have hL3_w3 : w.heap.size + 1 + 1 + 1 ≤ w3.heap.size := by omega)
  (try have hL3_w : w.heap.size ≤ w3.heap.size + 1 := by omega)
  (try have hM3_1 : w.heap.size < w3.heap.size + 1 := by omega)
  (try have hM3_2 : w.heap.size < w3.heap.size + 1 + 1 := by omega)
  (try have hM3_3 : w.heap.size < w3.heap.size + 1 + 1 + 1 := by omega)
  (try have hN3_1_00 : w1.heap.size < w3.heap.size := by omega)
  (try have hN3_1_01 : w1.heap.size < w3.heap.size + 1 := by omega)
  (try have hN3_1_02 : w1.heap.size < w3.heap.size + 1 + 1 := by omega)
  (try have hN3_1_10 : w1.heap.size + 1 < w3.heap.size := by omega)
  (try have hN3_1_11 : w1.heap.size + 1 < w3.heap.size + 1 := by omega)
  (try have hN3_1_12 : w1.heap.size + 1 < w3.heap.size + 1 + 1 := by omega)
  (try have hN3_1_20 : w1.heap.size + 1 + 1 < w3.heap.size := by omega)
  (try have hN3_1_21 : w1.heap.size + 1 + 1 < w3.heap.size + 1 := by omega)
  (try have hN3_1_22 : w1.heap.size + 1 + 1 < w3.heap.size + 1 + 1 := by omega)
  (try have hN3_2_00 : w2.heap.size < w3.heap.size := by omega)
  (try have hN3_2_01 : w2.heap.size < w3.heap.size + 1 := by omega)
  (try have hN3_2_02 : w2.heap.size < w3.heap.size + 1 + 1 := by omega)
  (try have hN3_2_10 : w2.heap.size + 1 < w3.heap.size := by omega)
  (try have hN3_2_11 : w2.heap.size + 1 < w3.heap.size + 1 := by omega)
  (try have hN3_2_12 : w2.heap.size + 1 < w3.heap.size + 1 + 1 := by omega)
  (try have hN3_2_20 : w2.heap.size + 1 + 1 < w3.heap.size := by omega)
  (try have hN3_2_21 : w2.heap.size + 1 + 1 < w3.heap.size + 1 := by omega)
  (try have hN3_2_22 : w2.heap.size + 1 + 1 < w3.heap.size + 1 + 1 := by omega)
  (try have hL3_1 : w1.heap.size ≤ w3.heap.size := by omega)
  (try have hL3_2 : w2.heap.size ≤ w3.heap.size := by omega)
  (try have hS3_1 : w1.heap.size < w3.heap.size := by omega)
  (try have hS3_1' : w1.heap.size + 1 < w3.heap.size := by omega)
  (try have hS3_2 : w2.heap.size < w3.heap.size := by omega)
  (try have hS3_2' : w2.heap.size + 1 < w3.heap.size := by omega)
  go_wp2_with fail
  refine (implCubeForms_any _ _ _ _ _ _ _ _ _).mono ?_
  rintro e4 w4 ⟨rfl, hB4⟩
  obtain ⟨hC4, hF4⟩ := bcell hB4
  have hS4 := hB4.size
  (try simp at hS4)
  (try have hS4_w0 : w.heap.size < w4.heap.size := by omega)
  (try have hS4_w1 : w.heap.size + 1 < w4.heap.size := by omega)
  (try have hS4_w2 : w.heap.size + 1 + 1 < w4.heap.size := by omega)
  (try have hS4_w3 : w.heap.size + 1 + 1 + 1 < w4.heap.size := by omega)
  (try have hS4_w4 : w.heap.size + 1 + 1 + 1 + 1 < w4.heap.size := by omega)
  (try have hL4_w0 : w.heap.size ≤ w4.heap.size := by omega)
  (try have hL4_w1 : w.heap.size + 1 ≤ w4.heap.size := by omega)
  (try have hL4_w2 : w.heap.size + 1 + 1 ≤ w4.heap.size := by omega)
  (try have hL4_w3 : w.heap.size + 1 + 1 + 1 ≤ w4.heap.size := by omega)
  (try have hL4_w : w.heap.size ≤ w4.heap.size + 1 := by omega)
  (try have hM4_1 : w.heap.size < w4.heap.size + 1 := by omega)
  (try have hM4_2 : w.heap.size < w4.heap.size + 1 + 1 := by omega)
  (try have hM4_3 : w.heap.size < w4.heap.size + 1 + 1 + 1 := by omega)
  (try have hN4_1_00 : w1.heap.size < w4.heap.size := by omega)
  (try have hN4_1_01 : w1.heap.size < w4.heap.size + 1 := by omega)
  (try have hN4_1_02 : w1.heap.size < w4.heap.size + 1 + 1 := by omega)
  (try have hN4_1_10 : w1.heap.size + 1 < w4.heap.size := by omega)
  (try have hN4_1_11 : w1.heap.size + 1 < w4.heap.size + 1 := by omega)
  (try have hN4_1_12 : w1.heap.size + 1 < w4.heap.size + 1 + 1 := by omega)
  (try have hN4_1_20 : w1.heap.size + 1 + 1 < w4.heap.size := by omega)
  (try have hN4_1_21 : w1.heap.size + 1 + 1 < w4.heap.size + 1 := by omega)
  (try have hN4_1_22 : w1.heap.size + 1 + 1 < w4.heap.size + 1 + 1 := by omega)
  (try have hN4_2_00 : w2.heap.size < w4.heap.size := by omega)
  (try have hN4_2_01 : w2.heap.size < w4.heap.size + 1 := by omega)
  (try have hN4_2_02 : w2.heap.size < w4.heap.size + 1 + 1 := by omega)
  (try have hN4_2_10 : w2.heap.size + 1 < w4.heap.size := by omega)
  (try have hN4_2_11 : w2.heap.size + 1 < w4.heap.size + 1 := by omega)
  (try have hN4_2_12 : w2.heap.size + 1 < w4.heap.size + 1 + 1 := by omega)
  (try have hN4_2_20 : w2.heap.size + 1 + 1 < w4.heap.size := by omega)
  (try have hN4_2_21 : w2.heap.size + 1 + 1 < w4.heap.size + 1 := by omega)
  (try have hN4_2_22 : w2.heap.size + 1 + 1 < w4.heap.size + 1 + 1 := by omega)
  (try have hN4_3_00 : w3.heap.size < w4.heap.size := by omega)
  (try have hN4_3_01 : w3.heap.size < w4.heap.size + 1 := by omega)
  (try have hN4_3_02 : w3.heap.size < w4.heap.size + 1 + 1 := by omega)
  (try have hN4_3_10 : w3.heap.size + 1 < w4.heap.size := by omega)
  (try have hN4_3_11 : w3.heap.size + 1 < w4.heap.size + 1 := by omega)
  (try have hN4_3_12 : w3.heap.size + 1 < w4.heap.size + 1 + 1 := by omega)
  (try have hN4_3_20 : w3.heap.size + 1 + 1 < w4.heap.size := by omega)
  (try have hN4_3_21 : w3.heap.size + 1 + 1 < w4.heap.size + 1 := by omega)
  (try have hN4_3_22 : w3.heap.size + 1 + 1 < w4.heap.size + 1 + 1 := by omega)
  (try have hL4_1 : w1.heap.size ≤ w4.heap.size := by omega)
  (try have hL4_2 : w2.heap.size ≤ w4.heap.size := by omega)
  (try have hL4_3 : w3.heap.size ≤ w4.heap.size := by omega)
  (try have hS4_1 : w1.heap.size < w4.heap.size := by omega)
  (try have hS4_1' : w1.heap.size + 1 < w4.heap.size := by omega)
  (try have hS4_2 : w2.heap.size < w4.heap.size := by omega)
  (try have hS4_2' : w2.heap.size + 1 < w4.heap.size := by omega)
  (try have hS4_3 : w3.heap.size < w4.heap.size := by omega)
  (try have hS4_3' : w3.heap.size + 1 < w4.heap.size := by omega)
  go_wp2_with fail
  refine (eqForm_same _ _ _ _).mono ?_
  rintro e5 w5 ⟨rfl, hB5⟩
  obtain ⟨hC5, hF5⟩ := bcell hB5
  have hS5 := hB5.size
  (try simp at hS5)
  (try have hS5_w0 : w.heap.size < w5.heap.size := by omega)
  (try have hS5_w1 : w.heap.size + 1 < w5.heap.size := by omega)
  (try have hS5_w2 : w.heap.size + 1 + 1 < w5.heap.size := by omega)
  (try have hS5_w3 : w.heap.size + 1 + 1 + 1 < w5.heap.size := by omega)
  (try have hS5_w4 : w.heap.size + 1 + 1 + 1 + 1 < w5.heap.size := by omega)
  (try have hL5_w0 : w.heap.size ≤ w5.heap.size := by omega)
  (try have hL5_w1 : w.heap.size + 1 ≤ w5.heap.size := by omega)
  (try have hL5_w2 : w.heap.size + 1 + 1 ≤ w5.heap.size := by omega)
  (try have hL5_w3 : w.heap.size + 1 + 1 + 1 ≤ w5.heap.size := by omega)
  (try have hL5_w : w.heap.size ≤ w5.heap.size + 1 := by omega)
  (try have hM5_1 : w.heap.size < w5.heap.size + 1 := by omega)
  (try have hM5_2 : w.heap.size < w5.heap.size + 1 + 1 := by omega)
  (try have hM5_3 : w.heap.size < w5.heap.size + 1 + 1 + 1 := by omega)
  (try have hN5_2_00 : w2.heap.size < w5.heap.size := by omega)
  (try have hN5_2_01 : w2.heap.size < w5.heap.size + 1 := by omega)
  (try have hN5_2_02 : w2.heap.size < w5.heap.size + 1 + 1 := by omega)
  (try have hN5_2_10 : w2.heap.size + 1 < w5.heap.size := by omega)
  (try have hN5_2_11 : w2.heap.size + 1 < w5.heap.size + 1 := by omega)
  (try have hN5_2_12 : w2.heap.size + 1 < w5.heap.size + 1 + 1 := by omega)
  (try have hN5_2_20 : w2.heap.size + 1 + 1 < w5.heap.size := by omega)
  (try have hN5_2_21 : w2.heap.size + 1 + 1 < w5.heap.size + 1 := by omega)
  (try have hN5_2_22 : w2.heap.size + 1 + 1 < w5.heap.size + 1 + 1 := by omega)
  (try have hN5_3_00 : w3.heap.size < w5.heap.size := by omega)
  (try have hN5_3_01 : w3.heap.size < w5.heap.size + 1 := by omega)
  (try have hN5_3_02 : w3.heap.size < w5.heap.size + 1 + 1 := by omega)
  (try have hN5_3_10 : w3.heap.size + 1 < w5.heap.size := by omega)
  (try have hN5_3_11 : w3.heap.size + 1 < w5.heap.size + 1 := by omega)
  (try have hN5_3_12 : w3.heap.size + 1 < w5.heap.size + 1 + 1 := by omega)
  (try have hN5_3_20 : w3.heap.size + 1 + 1 < w5.heap.size := by omega)
  (try have hN5_3_21 : w3.heap.size + 1 + 1 < w5.heap.size + 1 := by omega)
  (try have hN5_3_22 : w3.heap.size + 1 + 1 < w5.heap.size + 1 + 1 := by omega)
  (try have hN5_4_00 : w4.heap.size < w5.heap.size := by omega)
  (try have hN5_4_01 : w4.heap.size < w5.heap.size + 1 := by omega)
  (try have hN5_4_02 : w4.heap.size < w5.heap.size + 1 + 1 := by omega)
  (try have hN5_4_10 : w4.heap.size + 1 < w5.heap.size := by omega)
  (try have hN5_4_11 : w4.heap.size + 1 < w5.heap.size + 1 := by omega)
  (try have hN5_4_12 : w4.heap.size + 1 < w5.heap.size + 1 + 1 := by omega)
  (try have hN5_4_20 : w4.heap.size + 1 + 1 < w5.heap.size := by omega)
  (try have hN5_4_21 : w4.heap.size + 1 + 1 < w5.heap.size + 1 := by omega)
  (try have hN5_4_22 : w4.heap.size + 1 + 1 < w5.heap.size + 1 + 1 := by omega)
  (try have hL5_1 : w1.heap.size ≤ w5.heap.size := by omega)
  (try have hL5_2 : w2.heap.size ≤ w5.heap.size := by omega)
  (try have hL5_3 : w3.heap.size ≤ w5.heap.size := by omega)
  (try have hL5_4 : w4.heap.size ≤ w5.heap.size := by omega)
  (try have hS5_1 : w1.heap.size < w5.heap.size := by omega)
  (try have hS5_1' : w1.heap.size + 1 < w5.heap.size := by omega)
  (try have hS5_2 : w2.heap.size < w5.heap.size := by omega)
  (try have hS5_2' : w2.heap.size + 1 < w5.heap.size := by omega)
  (try have hS5_3 : w3.heap.size < w5.heap.size := by omega)
  (try have hS5_3' : w3.heap.size + 1 < w5.heap.size := by omega)
  (try have hS5_4 : w4.heap.size < w5.heap.size := by omega)
  (try have hS5_4' : w4.heap.size + 1 < w5.heap.size := by omega)
  go_wp2_with fail
  refine (eqForm_same _ _ _ _).mono ?_
  rintro e6 w6 ⟨rfl, hB6⟩
  obtain ⟨hC6, hF6⟩ := bcell hB6
  have hS6 := hB6.size
  (try simp at hS6)
  (try have hS6_w0 : w.heap.size < w6.heap.size := by omega)
  (try have hS6_w1 : w.heap.size + 1 < w6.heap.size := by omega)
  (try have hS6_w2 : w.heap.size + 1 + 1 < w6.heap.size := by omega)
  (try have hS6_w3 : w.heap.size + 1 + 1 + 1 < w6.heap.size := by omega)
  (try have hS6_w4 : w.heap.size + 1 + 1 + 1 + 1 < w6.heap.size := by omega)
  (try have hL6_w0 : w.heap.size ≤ w6.heap.size := by omega)
  (try have hL6_w1 : w.heap.size + 1 ≤ w6.heap.size := by omega)
  (try have hL6_w2 : w.heap.size + 1 + 1 ≤ w6.heap.size := by omega)
  (try have hL6_w3 : w.heap.size + 1 + 1 + 1 ≤ w6.heap.size := by omega)
  (try have hL6_w : w.heap.size ≤ w6.heap.size + 1 := by omega)
  (try have hM6_1 : w.heap.size < w6.heap.size + 1 := by omega)
  (try have hM6_2 : w.heap.size < w6.heap.size + 1 + 1 := by omega)
  (try have hM6_3 : w.heap.size < w6.heap.size + 1 + 1 + 1 := by omega)
  (try have hN6_3_00 : w3.heap.size < w6.heap.size := by omega)
  (try have hN6_3_01 : w3.heap.size < w6.heap.size + 1 := by omega)
  (try have hN6_3_02 : w3.heap.size < w6.heap.size + 1 + 1 := by omega)
  (try have hN6_3_10 : w3.heap.size + 1 < w6.heap.size := by omega)
  (try have hN6_3_11 : w3.heap.size + 1 < w6.heap.size + 1 := by omega)
  (try have hN6_3_12 : w3.heap.size + 1 < w6.heap.size + 1 + 1 := by omega)
  (try have hN6_3_20 : w3.heap.size + 1 + 1 < w6.heap.size := by omega)
  (try have hN6_3_21 : w3.heap.size + 1 + 1 < w6.heap.size + 1 := by omega)
  (try have hN6_3_22 : w3.heap.size + 1 + 1 < w6.heap.size + 1 + 1 := by omega)
  (try have hN6_4_00 : w4.heap.size < w6.heap.size := by omega)
  (try have hN6_4_01 : w4.heap.size < w6.heap.size + 1 := by omega)
  (try have hN6_4_02 : w4.heap.size < w6.heap.size + 1 + 1 := by omega)
  (try have hN6_4_10 : w4.heap.size + 1 < w6.heap.size := by omega)
  (try have hN6_4_11 : w4.heap.size + 1 < w6.heap.size + 1 := by omega)
  (try have hN6_4_12 : w4.heap.size + 1 < w6.heap.size + 1 + 1 := by omega)
  (try have hN6_4_20 : w4.heap.size + 1 + 1 < w6.heap.size := by omega)
  (try have hN6_4_21 : w4.heap.size + 1 + 1 < w6.heap.size + 1 := by omega)
  (try have hN6_4_22 : w4.heap.size + 1 + 1 < w6.heap.size + 1 + 1 := by omega)
  (try have hN6_5_00 : w5.heap.size < w6.heap.size := by omega)
  (try have hN6_5_01 : w5.heap.size < w6.heap.size + 1 := by omega)
  (try have hN6_5_02 : w5.heap.size < w6.heap.size + 1 + 1 := by omega)
  (try have hN6_5_10 : w5.heap.size + 1 < w6.heap.size := by omega)
  (try have hN6_5_11 : w5.heap.size + 1 < w6.heap.size + 1 := by omega)
  (try have hN6_5_12 : w5.heap.size + 1 < w6.heap.size + 1 + 1 := by omega)
  (try have hN6_5_20 : w5.heap.size + 1 + 1 < w6.heap.size := by omega)
  (try have hN6_5_21 : w5.heap.size + 1 + 1 < w6.heap.size + 1 := by omega)
  (try have hN6_5_22 : w5.heap.size + 1 + 1 < w6.heap.size + 1 + 1 := by omega)
  (try have hL6_1 : w1.heap.size ≤ w6.heap.size := by omega)
  (try have hL6_2 : w2.heap.size ≤ w6.heap.size := by omega)
  (try have hL6_3 : w3.heap.size ≤ w6.heap.size := by omega)
  (try have hL6_4 : w4.heap.size ≤ w6.heap.size := by omega)
  (try have hL6_5 : w5.heap.size ≤ w6.heap.size := by omega)
  (try have hS6_1 : w1.heap.size < w6.heap.size := by omega)
  (try have hS6_1' : w1.heap.size + 1 < w6.heap.size := by omega)
  (try have hS6_2 : w2.heap.size < w6.heap.size := by omega)
  (try have hS6_2' : w2.heap.size + 1 < w6.heap.size := by omega)
  (try have hS6_3 : w3.heap.size < w6.heap.size := by omega)
  (try have hS6_3' : w3.heap.size + 1 < w6.heap.size := by omega)
  (try have hS6_4 : w4.heap.size < w6.heap.size := by omega)
  (try have hS6_4' : w4.heap.size + 1 < w6.heap.size := by omega)
  (try have hS6_5 : w5.heap.size < w6.heap.size := by omega)
  (try have hS6_5' : w5.heap.size + 1 < w6.heap.size := by omega)
  go_wp2_with fail
  refine (eqForm_same _ _ _ _).mono ?_
  rintro e7 w7 ⟨rfl, hB7⟩
  obtain ⟨hC7, hF7⟩ := bcell hB7
  have hS7 := hB7.size
  (try simp at hS7)
  (try have hS7_w0 : w.heap.size < w7.heap.size := by omega)
  (try have hS7_w1 : w.heap.size + 1 < w7.heap.size := by omega)
  (try have hS7_w2 : w.heap.size + 1 + 1 < w7.heap.size := by omega)
  (try have hS7_w3 : w.heap.size + 1 + 1 + 1 < w7.heap.size := by omega)
  (try have hS7_w4 : w.heap.size + 1 + 1 + 1 + 1 < w7.heap.size := by omega)
  (try have hL7_w0 : w.heap.size ≤ w7.heap.size := by omega)
  (try have hL7_w1 : w.heap.size + 1 ≤ w7.heap.size := by omega)
  (try have hL7_w2 : w.heap.size + 1 + 1 ≤ w7.heap.size := by omega)
  (try have hL7_w3 : w.heap.size + 1 + 1 + 1 ≤ w7.heap.size := by omega)
  (try have hL7_w : w.heap.size ≤ w7.heap.size + 1 := by omega)
  (try have hM7_1 : w.heap.size < w7.heap.size + 1 := by omega)
  (try have hM7_2 : w.heap.size < w7.heap.size + 1 + 1 := by omega)
  (try have hM7_3 : w.heap.size < w7.heap.size + 1 + 1 + 1 := by omega)
  (try have hN7_4_00 : w4.heap.size < w7.heap.size := by omega)
  (try have hN7_4_01 : w4.heap.size < w7.heap.size + 1 := by omega)
  (try have hN7_4_02 : w4.heap.size < w7.heap.size + 1 + 1 := by omega)
  (try have hN7_4_10 : w4.heap.size + 1 < w7.heap.size := by omega)
  (try have hN7_4_11 : w4.heap.size + 1 < w7.heap.size + 1 := by omega)
  (try have hN7_4_12 : w4.heap.size + 1 < w7.heap.size + 1 + 1 := by omega)
  (try have hN7_4_20 : w4.heap.size + 1 + 1 < w7.heap.size := by omega)
  (try have hN7_4_21 : w4.heap.size + 1 + 1 < w7.heap.size + 1 := by omega)
  (try have hN7_4_22 : w4.heap.size + 1 + 1 < w7.heap.size + 1 + 1 := by omega)
  (try have hN7_5_00 : w5.heap.size < w7.heap.size := by omega)
  (try have hN7_5_01 : w5.heap.size < w7.heap.size + 1 := by omega)
  (try have hN7_5_02 : w5.heap.size < w7.heap.size + 1 + 1 := by omega)
  (try have hN7_5_10 : w5.heap.size + 1 < w7.heap.size := by omega)
  (try have hN7_5_11 : w5.heap.size + 1 < w7.heap.size + 1 := by omega)
  (try have hN7_5_12 : w5.heap.size + 1 < w7.heap.size + 1 + 1 := by omega)
  (try have hN7_5_20 : w5.heap.size + 1 + 1 < w7.heap.size := by omega)
  (try have hN7_5_21 : w5.heap.size + 1 + 1 < w7.heap.size + 1 := by omega)
  (try have hN7_5_22 : w5.heap.size + 1 + 1 < w7.heap.size + 1 + 1 := by omega)
  (try have hN7_6_00 : w6.heap.size < w7.heap.size := by omega)
  (try have hN7_6_01 : w6.heap.size < w7.heap.size + 1 := by omega)
  (try have hN7_6_02 : w6.heap.size < w7.heap.size + 1 + 1 := by omega)
  (try have hN7_6_10 : w6.heap.size + 1 < w7.heap.size := by omega)
  (try have hN7_6_11 : w6.heap.size + 1 < w7.heap.size + 1 := by omega)
  (try have hN7_6_12 : w6.heap.size + 1 < w7.heap.size + 1 + 1 := by omega)
  (try have hN7_6_20 : w6.heap.size + 1 + 1 < w7.heap.size := by omega)
  (try have hN7_6_21 : w6.heap.size + 1 + 1 < w7.heap.size + 1 := by omega)
  (try have hN7_6_22 : w6.heap.size + 1 + 1 < w7.heap.size + 1 + 1 := by omega)
  (try have hL7_1 : w1.heap.size ≤ w7.heap.size := by omega)
  (try have hL7_2 : w2.heap.size ≤ w7.heap.size := by omega)
  (try have hL7_3 : w3.heap.size ≤ w7.heap.size := by omega)
  (try have hL7_4 : w4.heap.size ≤ w7.heap.size := by omega)
  (try have hL7_5 : w5.heap.size ≤ w7.heap.size := by omega)
  (try have hL7_6 : w6.heap.size ≤ w7.heap.size := by omega)
  (try have hS7_1 : w1.heap.size < w7.heap.size := by omega)
  (try have hS7_1' : w1.heap.size + 1 < w7.heap.size := by omega)
  (try have hS7_2 : w2.heap.size < w7.heap.size := by omega)
  (try have hS7_2' : w2.heap.size + 1 < w7.heap.size := by omega)
  (try have hS7_3 : w3.heap.size < w7.heap.size := by omega)
  (try have hS7_3' : w3.heap.size + 1 < w7.heap.size := by omega)
  (try have hS7_4 : w4.heap.size < w7.heap.size := by omega)
  (try have hS7_4' : w4.heap.size + 1 < w7.heap.size := by omega)
  (try have hS7_5 : w5.heap.size < w7.heap.size := by omega)
  (try have hS7_5' : w5.heap.size + 1 < w7.heap.size := by omega)
  (try have hS7_6 : w6.heap.size < w7.heap.size := by omega)
  (try have hS7_6' : w6.heap.size + 1 < w7.heap.size := by omega)
  go_wp2
  go_ret
  refine ⟨rfl, ?_⟩
  repeat (first | with_reducible exact Below.refl _ _ | with_reducible assumption | ((with_reducible refine blA ?_ ?_); (focus (first | omega | (simp <;> omega)))) | (with_reducible refine blD ?_) | (with_reducible refine blN ?_) | ((with_reducible refine blS ?_ ?_); (focus (first | omega | (simp <;> omega)))) | ((with_reducible refine blT (by assumption) ?_ ?_); (focus (first | omega | (simp <;> omega)))))

end Go.Proofs.Ytphmjehmeigmdaa
