/-
  The river's steps: the exported functions and the walks of their laws.
-/
import Derived.Test.YtbdcdgdbgmgcgaaRiver
namespace Go.Proofs.Ytbdcdgdbgmgcgaa
open Go.RowKit
attribute [local simp, local go_sem] past_cell past_frozen past_tape
def rz (p : Bool) (x : Int) : Int := if p then x else 0
def rzS (p : Bool) (s : ByteArray) : ByteArray := if p then s else ⟨#[]⟩
set_option maxHeartbeats 800000 in
theorem implRiverStep_any (a b c : Int) (w : World) :
    Calls Try.prog 18 #[.agg #[.int .i64 a, .int .i64 b, .int .i64 c]] w fun e w' => e = .returned (.tuple #[.agg #[.int .i64 (rz (edgeB a b c) (fA a b c)), .int .i64 (rz (edgeB a b c) (fB a b c)), .int .i64 (rz (edgeB a b c) (fC a b c))], .string (rzS (edgeB a b c) (fS a b c)), .bool (edgeB a b c)]) ∧ Below w.heap.size w w' := by
  by_cases c1 : edgeB a b c = true
  · obtain ⟨b1, b2, b3⟩ := formB_bd (edgeB_form c1)
    go_enter Try.func18, Try.ntmps18
    go_wp2_with fail
    refine (isRiverEdge_any _ _ _ _).mono ?_
    rintro e1 w1 ⟨rfl, hB1⟩
    obtain ⟨hC1, hF1⟩ := bcell hB1
    have hS1 := hB1.size
    (try simp at hS1)
    (try have hS1_w0 : w.heap.size < w1.heap.size := by omega)
    (try have hS1_w1 : w.heap.size + 1 < w1.heap.size := by omega)
    (try have hS1_w2 : w.heap.size + 1 + 1 < w1.heap.size := by omega)
    (try have hS1_w3 : w.heap.size + 1 + 1 + 1 < w1.heap.size := by omega)
    (try have hS1_w4 : w.heap.size + 1 + 1 + 1 + 1 < w1.heap.size := by omega)
    (try have hL1_w0 : w.heap.size ≤ w1.heap.size := by omega)
    (try have hL1_w1 : w.heap.size + 1 ≤ w1.heap.size := by omega)
    (try have hL1_w2 : w.heap.size + 1 + 1 ≤ w1.heap.size := by omega)
    (try have hL1_w3 : w.heap.size + 1 + 1 + 1 ≤ w1.heap.size := by omega)
    (try have hL1_w : w.heap.size ≤ w1.heap.size + 1 := by omega)
    (try have hM1_1 : w.heap.size < w1.heap.size + 1 := by omega)
    (try have hM1_2 : w.heap.size < w1.heap.size + 1 + 1 := by omega)
    (try have hM1_3 : w.heap.size < w1.heap.size + 1 + 1 + 1 := by omega)
    go_wp2_with fail
    refine (riverStep_any _ _ _ _ b1 b2 b3).mono ?_
    rintro e2 w2 ⟨rfl, hB2⟩
    obtain ⟨hC2, hF2⟩ := bcell hB2
    have hS2 := hB2.size
    (try simp at hS2)
    (try have hS2_w0 : w.heap.size < w2.heap.size := by omega)
    (try have hS2_w1 : w.heap.size + 1 < w2.heap.size := by omega)
    (try have hS2_w2 : w.heap.size + 1 + 1 < w2.heap.size := by omega)
    (try have hS2_w3 : w.heap.size + 1 + 1 + 1 < w2.heap.size := by omega)
    (try have hS2_w4 : w.heap.size + 1 + 1 + 1 + 1 < w2.heap.size := by omega)
    (try have hL2_w0 : w.heap.size ≤ w2.heap.size := by omega)
    (try have hL2_w1 : w.heap.size + 1 ≤ w2.heap.size := by omega)
    (try have hL2_w2 : w.heap.size + 1 + 1 ≤ w2.heap.size := by omega)
    (try have hL2_w3 : w.heap.size + 1 + 1 + 1 ≤ w2.heap.size := by omega)
    (try have hL2_w : w.heap.size ≤ w2.heap.size + 1 := by omega)
    (try have hM2_1 : w.heap.size < w2.heap.size + 1 := by omega)
    (try have hM2_2 : w.heap.size < w2.heap.size + 1 + 1 := by omega)
    (try have hM2_3 : w.heap.size < w2.heap.size + 1 + 1 + 1 := by omega)
    (try have hN2_1_00 : w1.heap.size < w2.heap.size := by omega)
    (try have hN2_1_01 : w1.heap.size < w2.heap.size + 1 := by omega)
    (try have hN2_1_02 : w1.heap.size < w2.heap.size + 1 + 1 := by omega)
    (try have hN2_1_10 : w1.heap.size + 1 < w2.heap.size := by omega)
    (try have hN2_1_11 : w1.heap.size + 1 < w2.heap.size + 1 := by omega)
    (try have hN2_1_12 : w1.heap.size + 1 < w2.heap.size + 1 + 1 := by omega)
    (try have hN2_1_20 : w1.heap.size + 1 + 1 < w2.heap.size := by omega)
    (try have hN2_1_21 : w1.heap.size + 1 + 1 < w2.heap.size + 1 := by omega)
    (try have hN2_1_22 : w1.heap.size + 1 + 1 < w2.heap.size + 1 + 1 := by omega)
    (try have hL2_1 : w1.heap.size ≤ w2.heap.size := by omega)
    (try have hS2_1 : w1.heap.size < w2.heap.size := by omega)
    (try have hS2_1' : w1.heap.size + 1 < w2.heap.size := by omega)
    go_wp2
    have hR : ∀ o, w2.cell? ⟨w.heap.size + 1, o, none⟩ = (#[.int .i64 0, .int .i64 0, .int .i64 0] : Array Value)[o]? := by
      intro o
      rw [hC2 _ o (by first | omega | (simp; omega)), hC1 _ o (by simp)]
      simp [go_sem]
    refine bodyPost_ret (v := .tuple #[.agg #[.int .i64 (fA a b c), .int .i64 (fB a b c), .int .i64 (fC a b c)], .string (fS a b c), .bool true]) (by go_light; clear hC1 hC2 hF1 hF2 hB1 hB2; simp [results, Try.results18, go_sem, hR, hS2_w1]) rfl ⟨by rw [c1]; rfl, ?_⟩
    repeat (first | with_reducible exact Below.refl _ _ | with_reducible assumption | ((with_reducible refine blA ?_ ?_); (focus (first | omega | (simp <;> omega)))) | (with_reducible refine blD ?_) | (with_reducible refine blN ?_) | ((with_reducible refine blS ?_ ?_); (focus (first | omega | (simp <;> omega)))) | ((with_reducible refine blT (by assumption) ?_ ?_); (focus (first | omega | (simp <;> omega)))))
  · have c1' : edgeB a b c = false := by simpa using c1
    clear c1
    go_enter Try.func18, Try.ntmps18
    go_wp2_with (go_at_call 39; refine (isRiverEdge_any _ _ _ _).mono ?_; rintro e w' ⟨rfl, hB⟩; obtain ⟨hC, hF⟩ := bcell hB; have hS := hB.size; (try simp at hS); (try have hSl := Nat.lt_of_succ_le hS); (try have hS0 : w.heap.size < w'.heap.size := by omega); (try have hS1 : w.heap.size + 1 < w'.heap.size := by omega); (try have hS2 : w.heap.size + 1 + 1 < w'.heap.size := by omega); (try have hS3 : w.heap.size + 1 + 1 + 1 < w'.heap.size := by omega))
    refine bodyPost_ret (v := .tuple #[.agg #[.int .i64 0, .int .i64 0, .int .i64 0], .string ⟨#[]⟩, .bool false]) (by go_light; simp [results, Try.results18, go_sem, *]) rfl ⟨by rw [c1']; rfl, ?_⟩
    repeat (first | with_reducible exact Below.refl _ _ | with_reducible assumption | ((with_reducible refine blA ?_ ?_); (focus (first | omega | (simp <;> omega)))) | (with_reducible refine blD ?_) | (with_reducible refine blN ?_) | ((with_reducible refine blS ?_ ?_); (focus (first | omega | (simp <;> omega)))) | ((with_reducible refine blT (by assumption) ?_ ?_); (focus (first | omega | (simp <;> omega)))))
set_option maxHeartbeats 800000 in
theorem specRiverStep_any (a b c : Int) (w : World) :
    Calls Try.prog 17 #[.agg #[.int .i64 a, .int .i64 b, .int .i64 c]] w fun e w' => e = .returned (.tuple #[.agg #[.int .i64 (rz (edgeB a b c) (fA a b c)), .int .i64 (rz (edgeB a b c) (fB a b c)), .int .i64 (rz (edgeB a b c) (fC a b c))], .string (rzS (edgeB a b c) (fS a b c)), .bool (edgeB a b c)]) ∧ Below w.heap.size w w' := by
  by_cases c1 : edgeB a b c = true
  · obtain ⟨b1, b2, b3⟩ := formB_bd (edgeB_form c1)
    have c2 : rivB a b c = true := by simp only [edgeB, Bool.and_eq_true] at c1; exact c1.1.1
    have c3 : 0 < a := by simp only [edgeB, Bool.and_eq_true, decide_eq_true_eq] at c1; exact c1.1.2
    have c4 : c < 0 := by simp only [edgeB, Bool.and_eq_true, decide_eq_true_eq] at c1; exact c1.2
    by_cases hs : 0 < a + b + c
    · have hd : decide (0 < a + b + c) = true := by simp [hs]
      have hS' : Hid (fS a b c = ⟨#[112]⟩) := by show _ = _; simp [fS, hs]
      go_enter Try.func17, Try.ntmps17
      go_wp2_with fail
      refine (tpWet_any _ _ _ _).mono ?_
      rintro e1 w1 ⟨rfl, hB1⟩
      obtain ⟨hC1, hF1⟩ := bcell hB1
      have hS1 := hB1.size
      (try simp at hS1)
      (try have hS1_w0 : w.heap.size < w1.heap.size := by omega)
      (try have hS1_w1 : w.heap.size + 1 < w1.heap.size := by omega)
      (try have hS1_w2 : w.heap.size + 1 + 1 < w1.heap.size := by omega)
      (try have hS1_w3 : w.heap.size + 1 + 1 + 1 < w1.heap.size := by omega)
      (try have hS1_w4 : w.heap.size + 1 + 1 + 1 + 1 < w1.heap.size := by omega)
      (try have hL1_w0 : w.heap.size ≤ w1.heap.size := by omega)
      (try have hL1_w1 : w.heap.size + 1 ≤ w1.heap.size := by omega)
      (try have hL1_w2 : w.heap.size + 1 + 1 ≤ w1.heap.size := by omega)
      (try have hL1_w3 : w.heap.size + 1 + 1 + 1 ≤ w1.heap.size := by omega)
      (try have hL1_w : w.heap.size ≤ w1.heap.size + 1 := by omega)
      (try have hM1_1 : w.heap.size < w1.heap.size + 1 := by omega)
      (try have hM1_2 : w.heap.size < w1.heap.size + 1 + 1 := by omega)
      (try have hM1_3 : w.heap.size < w1.heap.size + 1 + 1 + 1 := by omega)
      go_wp2_with fail
      refine (tpFlow_any _ _ _ _ b1 b2 b3).mono ?_
      rintro e2 w2 ⟨rfl, hB2⟩
      obtain ⟨hC2, hF2⟩ := bcell hB2
      have hS2 := hB2.size
      (try simp at hS2)
      (try have hS2_w0 : w.heap.size < w2.heap.size := by omega)
      (try have hS2_w1 : w.heap.size + 1 < w2.heap.size := by omega)
      (try have hS2_w2 : w.heap.size + 1 + 1 < w2.heap.size := by omega)
      (try have hS2_w3 : w.heap.size + 1 + 1 + 1 < w2.heap.size := by omega)
      (try have hS2_w4 : w.heap.size + 1 + 1 + 1 + 1 < w2.heap.size := by omega)
      (try have hL2_w0 : w.heap.size ≤ w2.heap.size := by omega)
      (try have hL2_w1 : w.heap.size + 1 ≤ w2.heap.size := by omega)
      (try have hL2_w2 : w.heap.size + 1 + 1 ≤ w2.heap.size := by omega)
      (try have hL2_w3 : w.heap.size + 1 + 1 + 1 ≤ w2.heap.size := by omega)
      (try have hL2_w : w.heap.size ≤ w2.heap.size + 1 := by omega)
      (try have hM2_1 : w.heap.size < w2.heap.size + 1 := by omega)
      (try have hM2_2 : w.heap.size < w2.heap.size + 1 + 1 := by omega)
      (try have hM2_3 : w.heap.size < w2.heap.size + 1 + 1 + 1 := by omega)
      (try have hN2_1_00 : w1.heap.size < w2.heap.size := by omega)
      (try have hN2_1_01 : w1.heap.size < w2.heap.size + 1 := by omega)
      (try have hN2_1_02 : w1.heap.size < w2.heap.size + 1 + 1 := by omega)
      (try have hN2_1_10 : w1.heap.size + 1 < w2.heap.size := by omega)
      (try have hN2_1_11 : w1.heap.size + 1 < w2.heap.size + 1 := by omega)
      (try have hN2_1_12 : w1.heap.size + 1 < w2.heap.size + 1 + 1 := by omega)
      (try have hN2_1_20 : w1.heap.size + 1 + 1 < w2.heap.size := by omega)
      (try have hN2_1_21 : w1.heap.size + 1 + 1 < w2.heap.size + 1 := by omega)
      (try have hN2_1_22 : w1.heap.size + 1 + 1 < w2.heap.size + 1 + 1 := by omega)
      (try have hL2_1 : w1.heap.size ≤ w2.heap.size := by omega)
      (try have hS2_1 : w1.heap.size < w2.heap.size := by omega)
      (try have hS2_1' : w1.heap.size + 1 < w2.heap.size := by omega)
      go_wp2
      have hR : ∀ o, w2.cell? ⟨w.heap.size + 1, o, none⟩ = (#[.int .i64 0, .int .i64 0, .int .i64 0] : Array Value)[o]? := by
        intro o
        rw [hC2 _ o (by first | omega | (simp; omega)), hC1 _ o (by simp)]
        simp [go_sem]
      refine bodyPost_ret (v := .tuple #[.agg #[.int .i64 (fA a b c), .int .i64 (fB a b c), .int .i64 (fC a b c)], .string ⟨#[112]⟩, .bool true]) (by go_light; clear hC1 hC2 hF1 hF2 hB1 hB2; simp [results, Try.results17, go_sem, hR, hS2_w1]) rfl ⟨by rw [c1, ← hS'.out]; rfl, ?_⟩
      repeat (first | with_reducible exact Below.refl _ _ | with_reducible assumption | ((with_reducible refine blA ?_ ?_); (focus (first | omega | (simp <;> omega)))) | (with_reducible refine blD ?_) | (with_reducible refine blN ?_) | ((with_reducible refine blS ?_ ?_); (focus (first | omega | (simp <;> omega)))) | ((with_reducible refine blT (by assumption) ?_ ?_); (focus (first | omega | (simp <;> omega)))))
    · have hd : decide (0 < a + b + c) = false := by simpa using hs
      have hS' : Hid (fS a b c = ⟨#[110]⟩) := by show _ = _; rw [fS, if_neg hs]
      clear hs
      go_enter Try.func17, Try.ntmps17
      go_wp2_with fail
      refine (tpWet_any _ _ _ _).mono ?_
      rintro e3 w3 ⟨rfl, hB3⟩
      obtain ⟨hC3, hF3⟩ := bcell hB3
      have hS3 := hB3.size
      (try simp at hS3)
      (try have hS3_w0 : w.heap.size < w3.heap.size := by omega)
      (try have hS3_w1 : w.heap.size + 1 < w3.heap.size := by omega)
      (try have hS3_w2 : w.heap.size + 1 + 1 < w3.heap.size := by omega)
      (try have hS3_w3 : w.heap.size + 1 + 1 + 1 < w3.heap.size := by omega)
      (try have hS3_w4 : w.heap.size + 1 + 1 + 1 + 1 < w3.heap.size := by omega)
      (try have hL3_w0 : w.heap.size ≤ w3.heap.size := by omega)
      (try have hL3_w1 : w.heap.size + 1 ≤ w3.heap.size := by omega)
      (try have hL3_w2 : w.heap.size + 1 + 1 ≤ w3.heap.size := by omega)
      (try have hL3_w3 : w.heap.size + 1 + 1 + 1 ≤ w3.heap.size := by omega)
      (try have hL3_w : w.heap.size ≤ w3.heap.size + 1 := by omega)
      (try have hM3_1 : w.heap.size < w3.heap.size + 1 := by omega)
      (try have hM3_2 : w.heap.size < w3.heap.size + 1 + 1 := by omega)
      (try have hM3_3 : w.heap.size < w3.heap.size + 1 + 1 + 1 := by omega)
      (try have hN3_1_00 : w1.heap.size < w3.heap.size := by omega)
      (try have hN3_1_01 : w1.heap.size < w3.heap.size + 1 := by omega)
      (try have hN3_1_02 : w1.heap.size < w3.heap.size + 1 + 1 := by omega)
      (try have hN3_1_10 : w1.heap.size + 1 < w3.heap.size := by omega)
      (try have hN3_1_11 : w1.heap.size + 1 < w3.heap.size + 1 := by omega)
      (try have hN3_1_12 : w1.heap.size + 1 < w3.heap.size + 1 + 1 := by omega)
      (try have hN3_1_20 : w1.heap.size + 1 + 1 < w3.heap.size := by omega)
      (try have hN3_1_21 : w1.heap.size + 1 + 1 < w3.heap.size + 1 := by omega)
      (try have hN3_1_22 : w1.heap.size + 1 + 1 < w3.heap.size + 1 + 1 := by omega)
      (try have hN3_2_00 : w2.heap.size < w3.heap.size := by omega)
      (try have hN3_2_01 : w2.heap.size < w3.heap.size + 1 := by omega)
      (try have hN3_2_02 : w2.heap.size < w3.heap.size + 1 + 1 := by omega)
      (try have hN3_2_10 : w2.heap.size + 1 < w3.heap.size := by omega)
      (try have hN3_2_11 : w2.heap.size + 1 < w3.heap.size + 1 := by omega)
      (try have hN3_2_12 : w2.heap.size + 1 < w3.heap.size + 1 + 1 := by omega)
      (try have hN3_2_20 : w2.heap.size + 1 + 1 < w3.heap.size := by omega)
      (try have hN3_2_21 : w2.heap.size + 1 + 1 < w3.heap.size + 1 := by omega)
      (try have hN3_2_22 : w2.heap.size + 1 + 1 < w3.heap.size + 1 + 1 := by omega)
      (try have hL3_1 : w1.heap.size ≤ w3.heap.size := by omega)
      (try have hL3_2 : w2.heap.size ≤ w3.heap.size := by omega)
      (try have hS3_1 : w1.heap.size < w3.heap.size := by omega)
      (try have hS3_1' : w1.heap.size + 1 < w3.heap.size := by omega)
      (try have hS3_2 : w2.heap.size < w3.heap.size := by omega)
      (try have hS3_2' : w2.heap.size + 1 < w3.heap.size := by omega)
      go_wp2_with fail
      refine (tpFlow_any _ _ _ _ b1 b2 b3).mono ?_
      rintro e4 w4 ⟨rfl, hB4⟩
      obtain ⟨hC4, hF4⟩ := bcell hB4
      have hS4 := hB4.size
      (try simp at hS4)
      (try have hS4_w0 : w.heap.size < w4.heap.size := by omega)
      (try have hS4_w1 : w.heap.size + 1 < w4.heap.size := by omega)
      (try have hS4_w2 : w.heap.size + 1 + 1 < w4.heap.size := by omega)
      (try have hS4_w3 : w.heap.size + 1 + 1 + 1 < w4.heap.size := by omega)
      (try have hS4_w4 : w.heap.size + 1 + 1 + 1 + 1 < w4.heap.size := by omega)
      (try have hL4_w0 : w.heap.size ≤ w4.heap.size := by omega)
      (try have hL4_w1 : w.heap.size + 1 ≤ w4.heap.size := by omega)
      (try have hL4_w2 : w.heap.size + 1 + 1 ≤ w4.heap.size := by omega)
      (try have hL4_w3 : w.heap.size + 1 + 1 + 1 ≤ w4.heap.size := by omega)
      (try have hL4_w : w.heap.size ≤ w4.heap.size + 1 := by omega)
      (try have hM4_1 : w.heap.size < w4.heap.size + 1 := by omega)
      (try have hM4_2 : w.heap.size < w4.heap.size + 1 + 1 := by omega)
      (try have hM4_3 : w.heap.size < w4.heap.size + 1 + 1 + 1 := by omega)
      (try have hN4_1_00 : w1.heap.size < w4.heap.size := by omega)
      (try have hN4_1_01 : w1.heap.size < w4.heap.size + 1 := by omega)
      (try have hN4_1_02 : w1.heap.size < w4.heap.size + 1 + 1 := by omega)
      (try have hN4_1_10 : w1.heap.size + 1 < w4.heap.size := by omega)
      (try have hN4_1_11 : w1.heap.size + 1 < w4.heap.size + 1 := by omega)
      (try have hN4_1_12 : w1.heap.size + 1 < w4.heap.size + 1 + 1 := by omega)
      (try have hN4_1_20 : w1.heap.size + 1 + 1 < w4.heap.size := by omega)
      (try have hN4_1_21 : w1.heap.size + 1 + 1 < w4.heap.size + 1 := by omega)
      (try have hN4_1_22 : w1.heap.size + 1 + 1 < w4.heap.size + 1 + 1 := by omega)
      (try have hN4_2_00 : w2.heap.size < w4.heap.size := by omega)
      (try have hN4_2_01 : w2.heap.size < w4.heap.size + 1 := by omega)
      (try have hN4_2_02 : w2.heap.size < w4.heap.size + 1 + 1 := by omega)
      (try have hN4_2_10 : w2.heap.size + 1 < w4.heap.size := by omega)
      (try have hN4_2_11 : w2.heap.size + 1 < w4.heap.size + 1 := by omega)
      (try have hN4_2_12 : w2.heap.size + 1 < w4.heap.size + 1 + 1 := by omega)
      (try have hN4_2_20 : w2.heap.size + 1 + 1 < w4.heap.size := by omega)
      (try have hN4_2_21 : w2.heap.size + 1 + 1 < w4.heap.size + 1 := by omega)
      (try have hN4_2_22 : w2.heap.size + 1 + 1 < w4.heap.size + 1 + 1 := by omega)
      (try have hN4_3_00 : w3.heap.size < w4.heap.size := by omega)
      (try have hN4_3_01 : w3.heap.size < w4.heap.size + 1 := by omega)
      (try have hN4_3_02 : w3.heap.size < w4.heap.size + 1 + 1 := by omega)
      (try have hN4_3_10 : w3.heap.size + 1 < w4.heap.size := by omega)
      (try have hN4_3_11 : w3.heap.size + 1 < w4.heap.size + 1 := by omega)
      (try have hN4_3_12 : w3.heap.size + 1 < w4.heap.size + 1 + 1 := by omega)
      (try have hN4_3_20 : w3.heap.size + 1 + 1 < w4.heap.size := by omega)
      (try have hN4_3_21 : w3.heap.size + 1 + 1 < w4.heap.size + 1 := by omega)
      (try have hN4_3_22 : w3.heap.size + 1 + 1 < w4.heap.size + 1 + 1 := by omega)
      (try have hL4_1 : w1.heap.size ≤ w4.heap.size := by omega)
      (try have hL4_2 : w2.heap.size ≤ w4.heap.size := by omega)
      (try have hL4_3 : w3.heap.size ≤ w4.heap.size := by omega)
      (try have hS4_1 : w1.heap.size < w4.heap.size := by omega)
      (try have hS4_1' : w1.heap.size + 1 < w4.heap.size := by omega)
      (try have hS4_2 : w2.heap.size < w4.heap.size := by omega)
      (try have hS4_2' : w2.heap.size + 1 < w4.heap.size := by omega)
      (try have hS4_3 : w3.heap.size < w4.heap.size := by omega)
      (try have hS4_3' : w3.heap.size + 1 < w4.heap.size := by omega)
      go_wp2
      have hR : ∀ o, w4.cell? ⟨w.heap.size + 1, o, none⟩ = (#[.int .i64 0, .int .i64 0, .int .i64 0] : Array Value)[o]? := by
        intro o
        rw [hC4 _ o (by first | omega | (simp; omega)), hC3 _ o (by simp)]
        simp [go_sem]
      refine bodyPost_ret (v := .tuple #[.agg #[.int .i64 (fA a b c), .int .i64 (fB a b c), .int .i64 (fC a b c)], .string ⟨#[110]⟩, .bool true]) (by go_light; clear hC3 hC4 hF3 hF4 hB3 hB4; simp [results, Try.results17, go_sem, hR, hS4_w1]) rfl ⟨by rw [c1, ← hS'.out]; rfl, ?_⟩
      repeat (first | with_reducible exact Below.refl _ _ | with_reducible assumption | ((with_reducible refine blA ?_ ?_); (focus (first | omega | (simp <;> omega)))) | (with_reducible refine blD ?_) | (with_reducible refine blN ?_) | ((with_reducible refine blS ?_ ?_); (focus (first | omega | (simp <;> omega)))) | ((with_reducible refine blT (by assumption) ?_ ?_); (focus (first | omega | (simp <;> omega)))))
  · have c1' : edgeB a b c = false := by simpa using c1
    have HC := Lib.hid c1
    clear c1
    by_cases c2 : rivB a b c = true
    · by_cases c3 : 0 < a
      · have c4 : ¬ c < 0 := fun h => by have := HC.out; simp [edgeB, c2, c3, h] at this
        go_enter Try.func17, Try.ntmps17
        go_wp2_with (go_at_call 37; refine (tpWet_any _ _ _ _).mono ?_; rintro e w' ⟨rfl, hB⟩; obtain ⟨hC, hF⟩ := bcell hB; have hS := hB.size; (try simp at hS); (try have hSl := Nat.lt_of_succ_le hS); (try have hS0 : w.heap.size < w'.heap.size := by omega); (try have hS1 : w.heap.size + 1 < w'.heap.size := by omega); (try have hS2 : w.heap.size + 1 + 1 < w'.heap.size := by omega); (try have hS3 : w.heap.size + 1 + 1 + 1 < w'.heap.size := by omega))
        refine bodyPost_ret (v := .tuple #[.agg #[.int .i64 0, .int .i64 0, .int .i64 0], .string ⟨#[]⟩, .bool false]) (by go_light; simp [results, Try.results17, go_sem, *]) rfl ⟨by rw [c1']; rfl, ?_⟩
        repeat (first | with_reducible exact Below.refl _ _ | with_reducible assumption | ((with_reducible refine blA ?_ ?_); (focus (first | omega | (simp <;> omega)))) | (with_reducible refine blD ?_) | (with_reducible refine blN ?_) | ((with_reducible refine blS ?_ ?_); (focus (first | omega | (simp <;> omega)))) | ((with_reducible refine blT (by assumption) ?_ ?_); (focus (first | omega | (simp <;> omega)))))
      · go_enter Try.func17, Try.ntmps17
        go_wp2_with (go_at_call 37; refine (tpWet_any _ _ _ _).mono ?_; rintro e w' ⟨rfl, hB⟩; obtain ⟨hC, hF⟩ := bcell hB; have hS := hB.size; (try simp at hS); (try have hSl := Nat.lt_of_succ_le hS); (try have hS0 : w.heap.size < w'.heap.size := by omega); (try have hS1 : w.heap.size + 1 < w'.heap.size := by omega); (try have hS2 : w.heap.size + 1 + 1 < w'.heap.size := by omega); (try have hS3 : w.heap.size + 1 + 1 + 1 < w'.heap.size := by omega))
        refine bodyPost_ret (v := .tuple #[.agg #[.int .i64 0, .int .i64 0, .int .i64 0], .string ⟨#[]⟩, .bool false]) (by go_light; simp [results, Try.results17, go_sem, *]) rfl ⟨by rw [c1']; rfl, ?_⟩
        repeat (first | with_reducible exact Below.refl _ _ | with_reducible assumption | ((with_reducible refine blA ?_ ?_); (focus (first | omega | (simp <;> omega)))) | (with_reducible refine blD ?_) | (with_reducible refine blN ?_) | ((with_reducible refine blS ?_ ?_); (focus (first | omega | (simp <;> omega)))) | ((with_reducible refine blT (by assumption) ?_ ?_); (focus (first | omega | (simp <;> omega)))))
    · have c2' : rivB a b c = false := by simpa using c2
      clear c2
      go_enter Try.func17, Try.ntmps17
      go_wp2_with (go_at_call 37; refine (tpWet_any _ _ _ _).mono ?_; rintro e w' ⟨rfl, hB⟩; obtain ⟨hC, hF⟩ := bcell hB; have hS := hB.size; (try simp at hS); (try have hSl := Nat.lt_of_succ_le hS); (try have hS0 : w.heap.size < w'.heap.size := by omega); (try have hS1 : w.heap.size + 1 < w'.heap.size := by omega); (try have hS2 : w.heap.size + 1 + 1 < w'.heap.size := by omega); (try have hS3 : w.heap.size + 1 + 1 + 1 < w'.heap.size := by omega))
      refine bodyPost_ret (v := .tuple #[.agg #[.int .i64 0, .int .i64 0, .int .i64 0], .string ⟨#[]⟩, .bool false]) (by go_light; simp [results, Try.results17, go_sem, *]) rfl ⟨by rw [c1']; rfl, ?_⟩
      repeat (first | with_reducible exact Below.refl _ _ | with_reducible assumption | ((with_reducible refine blA ?_ ?_); (focus (first | omega | (simp <;> omega)))) | (with_reducible refine blD ?_) | (with_reducible refine blN ?_) | ((with_reducible refine blS ?_ ?_); (focus (first | omega | (simp <;> omega)))) | ((with_reducible refine blT (by assumption) ?_ ?_); (focus (first | omega | (simp <;> omega)))))
set_option maxHeartbeats 800000 in
theorem law_riverStep (a b c : Int) (w : World) (_ : I64 a) (_ : I64 b) (_ : I64 c) :
    Calls Try.prog 6 #[.agg #[.int .i64 a, .int .i64 b, .int .i64 c]] w fun e w' => e = .returned (.bool true) ∧ Below w.heap.size w w' := by
  go_enter Try.func6, Try.ntmps6
  go_wp2_with fail
  refine (toForm_any _ _ _ _).mono ?_
  rintro e1 w1 ⟨rfl, hB1⟩
  obtain ⟨hC1, hF1⟩ := bcell hB1
  have hS1 := hB1.size
  (try simp at hS1)
  (try have hS1_w0 : w.heap.size < w1.heap.size := by omega)
  (try have hS1_w1 : w.heap.size + 1 < w1.heap.size := by omega)
  (try have hS1_w2 : w.heap.size + 1 + 1 < w1.heap.size := by omega)
  (try have hS1_w3 : w.heap.size + 1 + 1 + 1 < w1.heap.size := by omega)
  (try have hS1_w4 : w.heap.size + 1 + 1 + 1 + 1 < w1.heap.size := by omega)
  (try have hL1_w0 : w.heap.size ≤ w1.heap.size := by omega)
  (try have hL1_w1 : w.heap.size + 1 ≤ w1.heap.size := by omega)
  (try have hL1_w2 : w.heap.size + 1 + 1 ≤ w1.heap.size := by omega)
  (try have hL1_w3 : w.heap.size + 1 + 1 + 1 ≤ w1.heap.size := by omega)
  (try have hL1_w : w.heap.size ≤ w1.heap.size + 1 := by omega)
  (try have hM1_1 : w.heap.size < w1.heap.size + 1 := by omega)
  (try have hM1_2 : w.heap.size < w1.heap.size + 1 + 1 := by omega)
  (try have hM1_3 : w.heap.size < w1.heap.size + 1 + 1 + 1 := by omega)
  go_wp2_with fail
  refine (specRiverStep_any _ _ _ _).mono ?_
  rintro e2 w2 ⟨rfl, hB2⟩
  obtain ⟨hC2, hF2⟩ := bcell hB2
  have hS2 := hB2.size
  (try simp at hS2)
  (try have hS2_w0 : w.heap.size < w2.heap.size := by omega)
  (try have hS2_w1 : w.heap.size + 1 < w2.heap.size := by omega)
  (try have hS2_w2 : w.heap.size + 1 + 1 < w2.heap.size := by omega)
  (try have hS2_w3 : w.heap.size + 1 + 1 + 1 < w2.heap.size := by omega)
  (try have hS2_w4 : w.heap.size + 1 + 1 + 1 + 1 < w2.heap.size := by omega)
  (try have hL2_w0 : w.heap.size ≤ w2.heap.size := by omega)
  (try have hL2_w1 : w.heap.size + 1 ≤ w2.heap.size := by omega)
  (try have hL2_w2 : w.heap.size + 1 + 1 ≤ w2.heap.size := by omega)
  (try have hL2_w3 : w.heap.size + 1 + 1 + 1 ≤ w2.heap.size := by omega)
  (try have hL2_w : w.heap.size ≤ w2.heap.size + 1 := by omega)
  (try have hM2_1 : w.heap.size < w2.heap.size + 1 := by omega)
  (try have hM2_2 : w.heap.size < w2.heap.size + 1 + 1 := by omega)
  (try have hM2_3 : w.heap.size < w2.heap.size + 1 + 1 + 1 := by omega)
  (try have hN2_1_00 : w1.heap.size < w2.heap.size := by omega)
  (try have hN2_1_01 : w1.heap.size < w2.heap.size + 1 := by omega)
  (try have hN2_1_02 : w1.heap.size < w2.heap.size + 1 + 1 := by omega)
  (try have hN2_1_10 : w1.heap.size + 1 < w2.heap.size := by omega)
  (try have hN2_1_11 : w1.heap.size + 1 < w2.heap.size + 1 := by omega)
  (try have hN2_1_12 : w1.heap.size + 1 < w2.heap.size + 1 + 1 := by omega)
  (try have hN2_1_20 : w1.heap.size + 1 + 1 < w2.heap.size := by omega)
  (try have hN2_1_21 : w1.heap.size + 1 + 1 < w2.heap.size + 1 := by omega)
  (try have hN2_1_22 : w1.heap.size + 1 + 1 < w2.heap.size + 1 + 1 := by omega)
  (try have hL2_1 : w1.heap.size ≤ w2.heap.size := by omega)
  (try have hS2_1 : w1.heap.size < w2.heap.size := by omega)
  (try have hS2_1' : w1.heap.size + 1 < w2.heap.size := by omega)
  go_wp2_with fail
  refine (toForm_any _ _ _ _).mono ?_
  rintro e3 w3 ⟨rfl, hB3⟩
  obtain ⟨hC3, hF3⟩ := bcell hB3
  have hS3 := hB3.size
  (try simp at hS3)
  (try have hS3_w0 : w.heap.size < w3.heap.size := by omega)
  (try have hS3_w1 : w.heap.size + 1 < w3.heap.size := by omega)
  (try have hS3_w2 : w.heap.size + 1 + 1 < w3.heap.size := by omega)
  (try have hS3_w3 : w.heap.size + 1 + 1 + 1 < w3.heap.size := by omega)
  (try have hS3_w4 : w.heap.size + 1 + 1 + 1 + 1 < w3.heap.size := by omega)
  (try have hL3_w0 : w.heap.size ≤ w3.heap.size := by omega)
  (try have hL3_w1 : w.heap.size + 1 ≤ w3.heap.size := by omega)
  (try have hL3_w2 : w.heap.size + 1 + 1 ≤ w3.heap.size := by omega)
  (try have hL3_w3 : w.heap.size + 1 + 1 + 1 ≤ w3.heap.size := by omega)
  (try have hL3_w : w.heap.size ≤ w3.heap.size + 1 := by omega)
  (try have hM3_1 : w.heap.size < w3.heap.size + 1 := by omega)
  (try have hM3_2 : w.heap.size < w3.heap.size + 1 + 1 := by omega)
  (try have hM3_3 : w.heap.size < w3.heap.size + 1 + 1 + 1 := by omega)
  (try have hN3_1_00 : w1.heap.size < w3.heap.size := by omega)
  (try have hN3_1_01 : w1.heap.size < w3.heap.size + 1 := by omega)
  (try have hN3_1_02 : w1.heap.size < w3.heap.size + 1 + 1 := by omega)
  (try have hN3_1_10 : w1.heap.size + 1 < w3.heap.size := by omega)
  (try have hN3_1_11 : w1.heap.size + 1 < w3.heap.size + 1 := by omega)
  (try have hN3_1_12 : w1.heap.size + 1 < w3.heap.size + 1 + 1 := by omega)
  (try have hN3_1_20 : w1.heap.size + 1 + 1 < w3.heap.size := by omega)
  (try have hN3_1_21 : w1.heap.size + 1 + 1 < w3.heap.size + 1 := by omega)
  (try have hN3_1_22 : w1.heap.size + 1 + 1 < w3.heap.size + 1 + 1 := by omega)
  (try have hN3_2_00 : w2.heap.size < w3.heap.size := by omega)
  (try have hN3_2_01 : w2.heap.size < w3.heap.size + 1 := by omega)
  (try have hN3_2_02 : w2.heap.size < w3.heap.size + 1 + 1 := by omega)
  (try have hN3_2_10 : w2.heap.size + 1 < w3.heap.size := by omega)
  (try have hN3_2_11 : w2.heap.size + 1 < w3.heap.size + 1 := by omega)
  (try have hN3_2_12 : w2.heap.size + 1 < w3.heap.size + 1 + 1 := by omega)
  (try have hN3_2_20 : w2.heap.size + 1 + 1 < w3.heap.size := by omega)
  (try have hN3_2_21 : w2.heap.size + 1 + 1 < w3.heap.size + 1 := by omega)
  (try have hN3_2_22 : w2.heap.size + 1 + 1 < w3.heap.size + 1 + 1 := by omega)
  (try have hL3_1 : w1.heap.size ≤ w3.heap.size := by omega)
  (try have hL3_2 : w2.heap.size ≤ w3.heap.size := by omega)
  (try have hS3_1 : w1.heap.size < w3.heap.size := by omega)
  (try have hS3_1' : w1.heap.size + 1 < w3.heap.size := by omega)
  (try have hS3_2 : w2.heap.size < w3.heap.size := by omega)
  (try have hS3_2' : w2.heap.size + 1 < w3.heap.size := by omega)
  go_wp2_with fail
  refine (implRiverStep_any _ _ _ _).mono ?_
  rintro e4 w4 ⟨rfl, hB4⟩
  obtain ⟨hC4, hF4⟩ := bcell hB4
  have hS4 := hB4.size
  (try simp at hS4)
  (try have hS4_w0 : w.heap.size < w4.heap.size := by omega)
  (try have hS4_w1 : w.heap.size + 1 < w4.heap.size := by omega)
  (try have hS4_w2 : w.heap.size + 1 + 1 < w4.heap.size := by omega)
  (try have hS4_w3 : w.heap.size + 1 + 1 + 1 < w4.heap.size := by omega)
  (try have hS4_w4 : w.heap.size + 1 + 1 + 1 + 1 < w4.heap.size := by omega)
  (try have hL4_w0 : w.heap.size ≤ w4.heap.size := by omega)
  (try have hL4_w1 : w.heap.size + 1 ≤ w4.heap.size := by omega)
  (try have hL4_w2 : w.heap.size + 1 + 1 ≤ w4.heap.size := by omega)
  (try have hL4_w3 : w.heap.size + 1 + 1 + 1 ≤ w4.heap.size := by omega)
  (try have hL4_w : w.heap.size ≤ w4.heap.size + 1 := by omega)
  (try have hM4_1 : w.heap.size < w4.heap.size + 1 := by omega)
  (try have hM4_2 : w.heap.size < w4.heap.size + 1 + 1 := by omega)
  (try have hM4_3 : w.heap.size < w4.heap.size + 1 + 1 + 1 := by omega)
  (try have hN4_1_00 : w1.heap.size < w4.heap.size := by omega)
  (try have hN4_1_01 : w1.heap.size < w4.heap.size + 1 := by omega)
  (try have hN4_1_02 : w1.heap.size < w4.heap.size + 1 + 1 := by omega)
  (try have hN4_1_10 : w1.heap.size + 1 < w4.heap.size := by omega)
  (try have hN4_1_11 : w1.heap.size + 1 < w4.heap.size + 1 := by omega)
  (try have hN4_1_12 : w1.heap.size + 1 < w4.heap.size + 1 + 1 := by omega)
  (try have hN4_1_20 : w1.heap.size + 1 + 1 < w4.heap.size := by omega)
  (try have hN4_1_21 : w1.heap.size + 1 + 1 < w4.heap.size + 1 := by omega)
  (try have hN4_1_22 : w1.heap.size + 1 + 1 < w4.heap.size + 1 + 1 := by omega)
  (try have hN4_2_00 : w2.heap.size < w4.heap.size := by omega)
  (try have hN4_2_01 : w2.heap.size < w4.heap.size + 1 := by omega)
  (try have hN4_2_02 : w2.heap.size < w4.heap.size + 1 + 1 := by omega)
  (try have hN4_2_10 : w2.heap.size + 1 < w4.heap.size := by omega)
  (try have hN4_2_11 : w2.heap.size + 1 < w4.heap.size + 1 := by omega)
  (try have hN4_2_12 : w2.heap.size + 1 < w4.heap.size + 1 + 1 := by omega)
  (try have hN4_2_20 : w2.heap.size + 1 + 1 < w4.heap.size := by omega)
  (try have hN4_2_21 : w2.heap.size + 1 + 1 < w4.heap.size + 1 := by omega)
  (try have hN4_2_22 : w2.heap.size + 1 + 1 < w4.heap.size + 1 + 1 := by omega)
  (try have hN4_3_00 : w3.heap.size < w4.heap.size := by omega)
  (try have hN4_3_01 : w3.heap.size < w4.heap.size + 1 := by omega)
  (try have hN4_3_02 : w3.heap.size < w4.heap.size + 1 + 1 := by omega)
  (try have hN4_3_10 : w3.heap.size + 1 < w4.heap.size := by omega)
  (try have hN4_3_11 : w3.heap.size + 1 < w4.heap.size + 1 := by omega)
  (try have hN4_3_12 : w3.heap.size + 1 < w4.heap.size + 1 + 1 := by omega)
  (try have hN4_3_20 : w3.heap.size + 1 + 1 < w4.heap.size := by omega)
  (try have hN4_3_21 : w3.heap.size + 1 + 1 < w4.heap.size + 1 := by omega)
  (try have hN4_3_22 : w3.heap.size + 1 + 1 < w4.heap.size + 1 + 1 := by omega)
  (try have hL4_1 : w1.heap.size ≤ w4.heap.size := by omega)
  (try have hL4_2 : w2.heap.size ≤ w4.heap.size := by omega)
  (try have hL4_3 : w3.heap.size ≤ w4.heap.size := by omega)
  (try have hS4_1 : w1.heap.size < w4.heap.size := by omega)
  (try have hS4_1' : w1.heap.size + 1 < w4.heap.size := by omega)
  (try have hS4_2 : w2.heap.size < w4.heap.size := by omega)
  (try have hS4_2' : w2.heap.size + 1 < w4.heap.size := by omega)
  (try have hS4_3 : w3.heap.size < w4.heap.size := by omega)
  (try have hS4_3' : w3.heap.size + 1 < w4.heap.size := by omega)
  go_wp2_with fail
  refine (eqForm_same _ _ _ _).mono ?_
  rintro e5 w5 ⟨rfl, hB5⟩
  obtain ⟨hC5, hF5⟩ := bcell hB5
  have hS5 := hB5.size
  (try simp at hS5)
  (try have hS5_w0 : w.heap.size < w5.heap.size := by omega)
  (try have hS5_w1 : w.heap.size + 1 < w5.heap.size := by omega)
  (try have hS5_w2 : w.heap.size + 1 + 1 < w5.heap.size := by omega)
  (try have hS5_w3 : w.heap.size + 1 + 1 + 1 < w5.heap.size := by omega)
  (try have hS5_w4 : w.heap.size + 1 + 1 + 1 + 1 < w5.heap.size := by omega)
  (try have hL5_w0 : w.heap.size ≤ w5.heap.size := by omega)
  (try have hL5_w1 : w.heap.size + 1 ≤ w5.heap.size := by omega)
  (try have hL5_w2 : w.heap.size + 1 + 1 ≤ w5.heap.size := by omega)
  (try have hL5_w3 : w.heap.size + 1 + 1 + 1 ≤ w5.heap.size := by omega)
  (try have hL5_w : w.heap.size ≤ w5.heap.size + 1 := by omega)
  (try have hM5_1 : w.heap.size < w5.heap.size + 1 := by omega)
  (try have hM5_2 : w.heap.size < w5.heap.size + 1 + 1 := by omega)
  (try have hM5_3 : w.heap.size < w5.heap.size + 1 + 1 + 1 := by omega)
  (try have hN5_2_00 : w2.heap.size < w5.heap.size := by omega)
  (try have hN5_2_01 : w2.heap.size < w5.heap.size + 1 := by omega)
  (try have hN5_2_02 : w2.heap.size < w5.heap.size + 1 + 1 := by omega)
  (try have hN5_2_10 : w2.heap.size + 1 < w5.heap.size := by omega)
  (try have hN5_2_11 : w2.heap.size + 1 < w5.heap.size + 1 := by omega)
  (try have hN5_2_12 : w2.heap.size + 1 < w5.heap.size + 1 + 1 := by omega)
  (try have hN5_2_20 : w2.heap.size + 1 + 1 < w5.heap.size := by omega)
  (try have hN5_2_21 : w2.heap.size + 1 + 1 < w5.heap.size + 1 := by omega)
  (try have hN5_2_22 : w2.heap.size + 1 + 1 < w5.heap.size + 1 + 1 := by omega)
  (try have hN5_3_00 : w3.heap.size < w5.heap.size := by omega)
  (try have hN5_3_01 : w3.heap.size < w5.heap.size + 1 := by omega)
  (try have hN5_3_02 : w3.heap.size < w5.heap.size + 1 + 1 := by omega)
  (try have hN5_3_10 : w3.heap.size + 1 < w5.heap.size := by omega)
  (try have hN5_3_11 : w3.heap.size + 1 < w5.heap.size + 1 := by omega)
  (try have hN5_3_12 : w3.heap.size + 1 < w5.heap.size + 1 + 1 := by omega)
  (try have hN5_3_20 : w3.heap.size + 1 + 1 < w5.heap.size := by omega)
  (try have hN5_3_21 : w3.heap.size + 1 + 1 < w5.heap.size + 1 := by omega)
  (try have hN5_3_22 : w3.heap.size + 1 + 1 < w5.heap.size + 1 + 1 := by omega)
  (try have hN5_4_00 : w4.heap.size < w5.heap.size := by omega)
  (try have hN5_4_01 : w4.heap.size < w5.heap.size + 1 := by omega)
  (try have hN5_4_02 : w4.heap.size < w5.heap.size + 1 + 1 := by omega)
  (try have hN5_4_10 : w4.heap.size + 1 < w5.heap.size := by omega)
  (try have hN5_4_11 : w4.heap.size + 1 < w5.heap.size + 1 := by omega)
  (try have hN5_4_12 : w4.heap.size + 1 < w5.heap.size + 1 + 1 := by omega)
  (try have hN5_4_20 : w4.heap.size + 1 + 1 < w5.heap.size := by omega)
  (try have hN5_4_21 : w4.heap.size + 1 + 1 < w5.heap.size + 1 := by omega)
  (try have hN5_4_22 : w4.heap.size + 1 + 1 < w5.heap.size + 1 + 1 := by omega)
  (try have hL5_1 : w1.heap.size ≤ w5.heap.size := by omega)
  (try have hL5_2 : w2.heap.size ≤ w5.heap.size := by omega)
  (try have hL5_3 : w3.heap.size ≤ w5.heap.size := by omega)
  (try have hL5_4 : w4.heap.size ≤ w5.heap.size := by omega)
  (try have hS5_1 : w1.heap.size < w5.heap.size := by omega)
  (try have hS5_1' : w1.heap.size + 1 < w5.heap.size := by omega)
  (try have hS5_2 : w2.heap.size < w5.heap.size := by omega)
  (try have hS5_2' : w2.heap.size + 1 < w5.heap.size := by omega)
  (try have hS5_3 : w3.heap.size < w5.heap.size := by omega)
  (try have hS5_3' : w3.heap.size + 1 < w5.heap.size := by omega)
  (try have hS5_4 : w4.heap.size < w5.heap.size := by omega)
  (try have hS5_4' : w4.heap.size + 1 < w5.heap.size := by omega)
  go_wp2
  go_ret
  refine ⟨rfl, ?_⟩
  repeat (first | with_reducible exact Below.refl _ _ | with_reducible assumption | ((with_reducible refine blA ?_ ?_); (focus (first | omega | (simp <;> omega)))) | (with_reducible refine blD ?_) | (with_reducible refine blN ?_) | ((with_reducible refine blS ?_ ?_); (focus (first | omega | (simp <;> omega)))) | ((with_reducible refine blT (by assumption) ?_ ?_); (focus (first | omega | (simp <;> omega)))))
end Go.Proofs.Ytbdcdgdbgmgcgaa
