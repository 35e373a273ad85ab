/-
  The topograph's exported functions and the walks of their laws.
-/
import Derived.Test.YtbdcdgdbgmgcgaaTopo
namespace Go.Proofs.Ytbdcdgdbgmgcgaa
open Go.RowKit
attribute [local simp, local go_sem] past_cell past_frozen past_tape
theorem toPoint_any (x y : Int) (w : World) :
    Calls Try.prog 27 #[.agg #[.int .i64 x, .int .i64 y]] w fun e w' => e = .returned (.agg #[.int .i64 x, .int .i64 y]) ∧ Below w.heap.size w w' := by
  go_enter Try.func27, Try.ntmps27
  go_wp2
  refine bodyPost_ret (v := .agg #[.int .i64 x, .int .i64 y]) (by simp [results, Try.results27, go_sem]) rfl ⟨rfl, ?_⟩
  repeat (first | with_reducible exact Below.refl _ _ | with_reducible assumption | ((with_reducible refine blA ?_ ?_); (focus (first | omega | (simp <;> omega)))) | (with_reducible refine blD ?_) | (with_reducible refine blN ?_) | ((with_reducible refine blS ?_ ?_); (focus (first | omega | (simp <;> omega)))) | ((with_reducible refine blT (by assumption) ?_ ?_); (focus (first | omega | (simp <;> omega)))))
set_option maxHeartbeats 800000 in
theorem toNode_any (a b c d e f : Int) (w : World) :
    Calls Try.prog 10 #[.agg #[.int .i64 a, .int .i64 b, .int .i64 c, .int .i64 d, .int .i64 e, .int .i64 f]] w fun en w' => en = .returned (.agg #[.int .i64 a, .int .i64 b, .int .i64 c, .int .i64 d, .int .i64 e, .int .i64 f]) ∧ Below w.heap.size w w' := by
  go_enter Try.func10, Try.ntmps10
  go_wp2_with fail
  refine (toPoint_any _ _ _).mono ?_
  rintro e1 w1 ⟨rfl, hB1⟩
  obtain ⟨hC1, hF1⟩ := bcell hB1
  have hS1 := hB1.size
  (try simp at hS1)
  (try have hS1_w0 : w.heap.size < w1.heap.size := by omega)
  (try have hS1_w1 : w.heap.size + 1 < w1.heap.size := by omega)
  (try have hS1_w2 : w.heap.size + 1 + 1 < w1.heap.size := by omega)
  (try have hS1_w3 : w.heap.size + 1 + 1 + 1 < w1.heap.size := by omega)
  (try have hS1_w4 : w.heap.size + 1 + 1 + 1 + 1 < w1.heap.size := by omega)
  (try have hL1_w0 : w.heap.size ≤ w1.heap.size := by omega)
  (try have hL1_w1 : w.heap.size + 1 ≤ w1.heap.size := by omega)
  (try have hL1_w2 : w.heap.size + 1 + 1 ≤ w1.heap.size := by omega)
  (try have hL1_w3 : w.heap.size + 1 + 1 + 1 ≤ w1.heap.size := by omega)
  (try have hL1_w : w.heap.size ≤ w1.heap.size + 1 := by omega)
  (try have hM1_1 : w.heap.size < w1.heap.size + 1 := by omega)
  (try have hM1_2 : w.heap.size < w1.heap.size + 1 + 1 := by omega)
  (try have hM1_3 : w.heap.size < w1.heap.size + 1 + 1 + 1 := by omega)
  go_wp2_with fail
  refine (toPoint_any _ _ _).mono ?_
  rintro e2 w2 ⟨rfl, hB2⟩
  obtain ⟨hC2, hF2⟩ := bcell hB2
  have hS2 := hB2.size
  (try simp at hS2)
  (try have hS2_w0 : w.heap.size < w2.heap.size := by omega)
  (try have hS2_w1 : w.heap.size + 1 < w2.heap.size := by omega)
  (try have hS2_w2 : w.heap.size + 1 + 1 < w2.heap.size := by omega)
  (try have hS2_w3 : w.heap.size + 1 + 1 + 1 < w2.heap.size := by omega)
  (try have hS2_w4 : w.heap.size + 1 + 1 + 1 + 1 < w2.heap.size := by omega)
  (try have hL2_w0 : w.heap.size ≤ w2.heap.size := by omega)
  (try have hL2_w1 : w.heap.size + 1 ≤ w2.heap.size := by omega)
  (try have hL2_w2 : w.heap.size + 1 + 1 ≤ w2.heap.size := by omega)
  (try have hL2_w3 : w.heap.size + 1 + 1 + 1 ≤ w2.heap.size := by omega)
  (try have hL2_w : w.heap.size ≤ w2.heap.size + 1 := by omega)
  (try have hM2_1 : w.heap.size < w2.heap.size + 1 := by omega)
  (try have hM2_2 : w.heap.size < w2.heap.size + 1 + 1 := by omega)
  (try have hM2_3 : w.heap.size < w2.heap.size + 1 + 1 + 1 := by omega)
  (try have hN2_1_00 : w1.heap.size < w2.heap.size := by omega)
  (try have hN2_1_01 : w1.heap.size < w2.heap.size + 1 := by omega)
  (try have hN2_1_02 : w1.heap.size < w2.heap.size + 1 + 1 := by omega)
  (try have hN2_1_10 : w1.heap.size + 1 < w2.heap.size := by omega)
  (try have hN2_1_11 : w1.heap.size + 1 < w2.heap.size + 1 := by omega)
  (try have hN2_1_12 : w1.heap.size + 1 < w2.heap.size + 1 + 1 := by omega)
  (try have hN2_1_20 : w1.heap.size + 1 + 1 < w2.heap.size := by omega)
  (try have hN2_1_21 : w1.heap.size + 1 + 1 < w2.heap.size + 1 := by omega)
  (try have hN2_1_22 : w1.heap.size + 1 + 1 < w2.heap.size + 1 + 1 := by omega)
  (try have hL2_1 : w1.heap.size ≤ w2.heap.size := by omega)
  (try have hS2_1 : w1.heap.size < w2.heap.size := by omega)
  (try have hS2_1' : w1.heap.size + 1 < w2.heap.size := by omega)
  go_wp2_with fail
  refine (toPoint_any _ _ _).mono ?_
  rintro e3 w3 ⟨rfl, hB3⟩
  obtain ⟨hC3, hF3⟩ := bcell hB3
  have hS3 := hB3.size
  (try simp at hS3)
  (try have hS3_w0 : w.heap.size < w3.heap.size := by omega)
  (try have hS3_w1 : w.heap.size + 1 < w3.heap.size := by omega)
  (try have hS3_w2 : w.heap.size + 1 + 1 < w3.heap.size := by omega)
  (try have hS3_w3 : w.heap.size + 1 + 1 + 1 < w3.heap.size := by omega)
  (try have hS3_w4 : w.heap.size + 1 + 1 + 1 + 1 < w3.heap.size := by omega)
  (try have hL3_w0 : w.heap.size ≤ w3.heap.size := by omega)
  (try have hL3_w1 : w.heap.size + 1 ≤ w3.heap.size := by omega)
  (try have hL3_w2 : w.heap.size + 1 + 1 ≤ w3.heap.size := by omega)
  (try have hL3_w3 : w.heap.size + 1 + 1 + 1 ≤ w3.heap.size := by omega)
  (try have hL3_w : w.heap.size ≤ w3.heap.size + 1 := by omega)
  (try have hM3_1 : w.heap.size < w3.heap.size + 1 := by omega)
  (try have hM3_2 : w.heap.size < w3.heap.size + 1 + 1 := by omega)
  (try have hM3_3 : w.heap.size < w3.heap.size + 1 + 1 + 1 := by omega)
  (try have hN3_1_00 : w1.heap.size < w3.heap.size := by omega)
  (try have hN3_1_01 : w1.heap.size < w3.heap.size + 1 := by omega)
  (try have hN3_1_02 : w1.heap.size < w3.heap.size + 1 + 1 := by omega)
  (try have hN3_1_10 : w1.heap.size + 1 < w3.heap.size := by omega)
  (try have hN3_1_11 : w1.heap.size + 1 < w3.heap.size + 1 := by omega)
  (try have hN3_1_12 : w1.heap.size + 1 < w3.heap.size + 1 + 1 := by omega)
  (try have hN3_1_20 : w1.heap.size + 1 + 1 < w3.heap.size := by omega)
  (try have hN3_1_21 : w1.heap.size + 1 + 1 < w3.heap.size + 1 := by omega)
  (try have hN3_1_22 : w1.heap.size + 1 + 1 < w3.heap.size + 1 + 1 := by omega)
  (try have hN3_2_00 : w2.heap.size < w3.heap.size := by omega)
  (try have hN3_2_01 : w2.heap.size < w3.heap.size + 1 := by omega)
  (try have hN3_2_02 : w2.heap.size < w3.heap.size + 1 + 1 := by omega)
  (try have hN3_2_10 : w2.heap.size + 1 < w3.heap.size := by omega)
  (try have hN3_2_11 : w2.heap.size + 1 < w3.heap.size + 1 := by omega)
  (try have hN3_2_12 : w2.heap.size + 1 < w3.heap.size + 1 + 1 := by omega)
  (try have hN3_2_20 : w2.heap.size + 1 + 1 < w3.heap.size := by omega)
  (try have hN3_2_21 : w2.heap.size + 1 + 1 < w3.heap.size + 1 := by omega)
  (try have hN3_2_22 : w2.heap.size + 1 + 1 < w3.heap.size + 1 + 1 := by omega)
  (try have hL3_1 : w1.heap.size ≤ w3.heap.size := by omega)
  (try have hL3_2 : w2.heap.size ≤ w3.heap.size := by omega)
  (try have hS3_1 : w1.heap.size < w3.heap.size := by omega)
  (try have hS3_1' : w1.heap.size + 1 < w3.heap.size := by omega)
  (try have hS3_2 : w2.heap.size < w3.heap.size := by omega)
  (try have hS3_2' : w2.heap.size + 1 < w3.heap.size := by omega)
  go_wp2
  refine bodyPost_ret (v := .agg #[.int .i64 a, .int .i64 b, .int .i64 c, .int .i64 d, .int .i64 e, .int .i64 f]) (by go_light; simp [results, Try.results10, go_sem, *]) rfl ⟨rfl, ?_⟩
  repeat (first | with_reducible exact Below.refl _ _ | with_reducible assumption | ((with_reducible refine blA ?_ ?_); (focus (first | omega | (simp <;> omega)))) | (with_reducible refine blD ?_) | (with_reducible refine blN ?_) | ((with_reducible refine blS ?_ ?_); (focus (first | omega | (simp <;> omega)))) | ((with_reducible refine blT (by assumption) ?_ ?_); (focus (first | omega | (simp <;> omega)))))
theorem implIsNode_any (a b c d e f : Int) (w : World) :
    Calls Try.prog 11 #[.agg #[.int .i64 a, .int .i64 b, .int .i64 c, .int .i64 d, .int .i64 e, .int .i64 f]] w fun en w' => en = .returned (.bool (nodeB a b c d e f)) ∧ Below w.heap.size w w' := by
  go_enter Try.func11, Try.ntmps11
  go_wp2_with (go_at_call 28; refine (isNode_any _ _ _ _ _ _ _).mono ?_; rintro e w' ⟨rfl, hB⟩; obtain ⟨hC, hF⟩ := bcell hB; have hS := hB.size; (try simp at hS); (try have hSl := Nat.lt_of_succ_le hS); (try have hS0 : w.heap.size < w'.heap.size := by omega); (try have hS1 : w.heap.size + 1 < w'.heap.size := by omega); (try have hS2 : w.heap.size + 1 + 1 < w'.heap.size := by omega); (try have hS3 : w.heap.size + 1 + 1 + 1 < w'.heap.size := by omega))
  go_ret
  refine ⟨rfl, ?_⟩
  repeat (first | with_reducible exact Below.refl _ _ | with_reducible assumption | ((with_reducible refine blA ?_ ?_); (focus (first | omega | (simp <;> omega)))) | (with_reducible refine blD ?_) | (with_reducible refine blN ?_) | ((with_reducible refine blS ?_ ?_); (focus (first | omega | (simp <;> omega)))) | ((with_reducible refine blT (by assumption) ?_ ?_); (focus (first | omega | (simp <;> omega)))))
theorem specIsNode_any (a b c d e f : Int) (w : World) :
    Calls Try.prog 9 #[.agg #[.int .i64 a, .int .i64 b, .int .i64 c, .int .i64 d, .int .i64 e, .int .i64 f]] w fun en w' => en = .returned (.bool (nodeB a b c d e f)) ∧ Below w.heap.size w w' := by
  go_enter Try.func9, Try.ntmps9
  go_wp2_with (go_at_call 26; refine (tpGood_any _ _ _ _ _ _ _).mono ?_; rintro e w' ⟨rfl, hB⟩; obtain ⟨hC, hF⟩ := bcell hB; have hS := hB.size; (try simp at hS); (try have hSl := Nat.lt_of_succ_le hS); (try have hS0 : w.heap.size < w'.heap.size := by omega); (try have hS1 : w.heap.size + 1 < w'.heap.size := by omega); (try have hS2 : w.heap.size + 1 + 1 < w'.heap.size := by omega); (try have hS3 : w.heap.size + 1 + 1 + 1 < w'.heap.size := by omega))
  go_ret
  refine ⟨rfl, ?_⟩
  repeat (first | with_reducible exact Below.refl _ _ | with_reducible assumption | ((with_reducible refine blA ?_ ?_); (focus (first | omega | (simp <;> omega)))) | (with_reducible refine blD ?_) | (with_reducible refine blN ?_) | ((with_reducible refine blS ?_ ?_); (focus (first | omega | (simp <;> omega)))) | ((with_reducible refine blT (by assumption) ?_ ?_); (focus (first | omega | (simp <;> omega)))))
set_option maxHeartbeats 800000 in
theorem law_isNode (a b c d e f : Int) (w : World) (_ : I64 a) (_ : I64 b) (_ : I64 c) (_ : I64 d) (_ : I64 e) (_ : I64 f) :
    Calls Try.prog 3 #[.agg #[.int .i64 a, .int .i64 b, .int .i64 c, .int .i64 d, .int .i64 e, .int .i64 f]] w fun en w' => en = .returned (.bool true) ∧ Below w.heap.size w w' := by
  go_enter Try.func3, Try.ntmps3
  go_wp2_with (first | (go_at_call 10; refine (toNode_any _ _ _ _ _ _ _).mono ?_; rintro e w' ⟨rfl, hB⟩; obtain ⟨hC, hF⟩ := bcell hB; have hS := hB.size; (try simp at hS); (try have hSl := Nat.lt_of_succ_le hS); (try have hS0 : w.heap.size < w'.heap.size := by omega); (try have hS1 : w.heap.size + 1 < w'.heap.size := by omega); (try have hS2 : w.heap.size + 1 + 1 < w'.heap.size := by omega); (try have hS3 : w.heap.size + 1 + 1 + 1 < w'.heap.size := by omega)) | (go_at_call 9; refine (specIsNode_any _ _ _ _ _ _ _).mono ?_; rintro e w' ⟨rfl, hB⟩; obtain ⟨hC, hF⟩ := bcell hB; have hS := hB.size; (try simp at hS); (try have hSl := Nat.lt_of_succ_le hS); (try have hS0 : w.heap.size < w'.heap.size := by omega); (try have hS1 : w.heap.size + 1 < w'.heap.size := by omega); (try have hS2 : w.heap.size + 1 + 1 < w'.heap.size := by omega); (try have hS3 : w.heap.size + 1 + 1 + 1 < w'.heap.size := by omega)) | (go_at_call 11; refine (implIsNode_any _ _ _ _ _ _ _).mono ?_; rintro e w' ⟨rfl, hB⟩; obtain ⟨hC, hF⟩ := bcell hB; have hS := hB.size; (try simp at hS); (try have hSl := Nat.lt_of_succ_le hS); (try have hS0 : w.heap.size < w'.heap.size := by omega); (try have hS1 : w.heap.size + 1 < w'.heap.size := by omega); (try have hS2 : w.heap.size + 1 + 1 < w'.heap.size := by omega); (try have hS3 : w.heap.size + 1 + 1 + 1 < w'.heap.size := by omega)))
  go_ret
  refine ⟨rfl, ?_⟩
  repeat (first | with_reducible exact Below.refl _ _ | with_reducible assumption | ((with_reducible refine blA ?_ ?_); (focus (first | omega | (simp <;> omega)))) | (with_reducible refine blD ?_) | (with_reducible refine blN ?_) | ((with_reducible refine blS ?_ ?_); (focus (first | omega | (simp <;> omega)))) | ((with_reducible refine blT (by assumption) ?_ ?_); (focus (first | omega | (simp <;> omega)))))
def nodeV (p q r a b c d e f x y : Int) : Int := if formB p q r && nodeB a b c d e f then valW p q r x y else 0
theorem ret_iiib {a b c a' b' c' : Int} {d d' : Bool} (h1 : a = a') (h2 : b = b') (h3 : c = c') (h4 : d = d') : Ending.returned (.tuple #[.int .i64 a, .int .i64 b, .int .i64 c, .bool d]) = .returned (.tuple #[.int .i64 a', .int .i64 b', .int .i64 c', .bool d']) := by rw [h1, h2, h3, h4]
theorem results_tmp4 {fn : Func} {t u v x : Tmp} (h : fn.results = #[.tmp t, .tmp u, .tmp v, .tmp x]) (tmps : Array Value) (P : Program) (w : World) :
    (results fn tmps).run P w = .ok (.tuple #[tmps.getD t undef, tmps.getD u undef, tmps.getD v undef, tmps.getD x undef]) w := by simp [results, h]
theorem values_any (p q r a b c d e f : Int) (w : World) :
    Calls Try.prog 32 #[.agg #[.int .i64 a, .int .i64 b, .int .i64 c, .int .i64 d, .int .i64 e, .int .i64 f], .agg #[.int .i64 p, .int .i64 q, .int .i64 r]] w fun en w' => en = .returned (.agg #[.int .i64 (valW p q r a b), .int .i64 (valW p q r c d), .int .i64 (valW p q r e f)]) ∧ Below w.heap.size w w' := by
  go_enter Try.func32, Try.ntmps32
  go_wp2_with fail
  refine wp_region_past_tail 25 (by kernel_rfl) (by kernel_rfl) ?_
  simp only [List.take_succ_cons, List.take_zero, List.drop_succ_cons, List.drop_zero]
  repeat (first | go_big_quiet_skip | (go_big_quiet_want; go_big_quiet_op; first | go_big_quiet_on | (apply Exists.intro; refine ⟨fun _ => ?_, ?_⟩; (focus ((go_at_call 60; exact past_of (at_any _ _ _ _ _ _)))); go_big_quiet_on)))
  refine wpQuiet_nil ?_
  intro w1 hw'
  have hB1 := past_below hw'
  clear hw'
  obtain ⟨hC1, hF1⟩ := bcell hB1
  have hS1 := hB1.size
  (try simp at hS1)
  (try have hS1_w0 : w.heap.size < w1.heap.size := by omega)
  (try have hS1_w1 : w.heap.size + 1 < w1.heap.size := by omega)
  (try have hS1_w2 : w.heap.size + 1 + 1 < w1.heap.size := by omega)
  (try have hS1_w3 : w.heap.size + 1 + 1 + 1 < w1.heap.size := by omega)
  (try have hS1_w4 : w.heap.size + 1 + 1 + 1 + 1 < w1.heap.size := by omega)
  go_wp2
  refine bodyPost_ret (v := .agg #[.int .i64 (valW p q r a b), .int .i64 (valW p q r c d), .int .i64 (valW p q r e f)]) (by go_light; simp [results, Try.results32, go_sem, *]) rfl ⟨rfl, ?_⟩
  repeat (first | with_reducible exact Below.refl _ _ | with_reducible assumption | ((with_reducible refine blA ?_ ?_); (focus (first | omega | (simp <;> omega)))) | (with_reducible refine blD ?_) | (with_reducible refine blN ?_) | ((with_reducible refine blS ?_ ?_); (focus (first | omega | (simp <;> omega)))) | ((with_reducible refine blT (by assumption) ?_ ?_); (focus (first | omega | (simp <;> omega)))))
set_option maxHeartbeats 800000 in
theorem implNodeValues_any (p q r a b c d e f : Int) (w : World) :
    Calls Try.prog 14 #[.agg #[.int .i64 p, .int .i64 q, .int .i64 r], .agg #[.int .i64 a, .int .i64 b, .int .i64 c, .int .i64 d, .int .i64 e, .int .i64 f]] w fun en w' => en = .returned (.tuple #[.int .i64 (nodeV p q r a b c d e f a b), .int .i64 (nodeV p q r a b c d e f c d), .int .i64 (nodeV p q r a b c d e f e f), .bool (formB p q r && nodeB a b c d e f)]) ∧ Below w.heap.size w w' := by
  by_cases c1 : formB p q r = true
  · by_cases c2 : nodeB a b c d e f = true
    · have hs : Hid (∀ x y, nodeV p q r a b c d e f x y = valW p q r x y) := by show ∀ x y, _; intro x y; simp [nodeV, c1, c2]
      go_enter Try.func14, Try.ntmps14
      go_wp2_with (first | (go_at_call 31; refine (IsForm_any _ _ _ _).mono ?_; rintro e w' ⟨rfl, hB⟩; obtain ⟨hC, hF⟩ := bcell hB; have hS := hB.size; (try simp at hS); (try have hSl := Nat.lt_of_succ_le hS); (try have hS0 : w.heap.size < w'.heap.size := by omega); (try have hS1 : w.heap.size + 1 < w'.heap.size := by omega); (try have hS2 : w.heap.size + 1 + 1 < w'.heap.size := by omega); (try have hS3 : w.heap.size + 1 + 1 + 1 < w'.heap.size := by omega)) | (go_at_call 28; refine (isNode_any _ _ _ _ _ _ _).mono ?_; rintro e w' ⟨rfl, hB⟩; obtain ⟨hC, hF⟩ := bcell hB; have hS := hB.size; (try simp at hS); (try have hSl := Nat.lt_of_succ_le hS); (try have hS0 : w.heap.size < w'.heap.size := by omega); (try have hS1 : w.heap.size + 1 < w'.heap.size := by omega); (try have hS2 : w.heap.size + 1 + 1 < w'.heap.size := by omega); (try have hS3 : w.heap.size + 1 + 1 + 1 < w'.heap.size := by omega)) | (go_at_call 32; refine (values_any _ _ _ _ _ _ _ _ _ _).mono ?_; rintro e w' ⟨rfl, hB⟩; obtain ⟨hC, hF⟩ := bcell hB; have hS := hB.size; (try simp at hS); (try have hSl := Nat.lt_of_succ_le hS); (try have hS0 : w.heap.size < w'.heap.size := by omega); (try have hS1 : w.heap.size + 1 < w'.heap.size := by omega); (try have hS2 : w.heap.size + 1 + 1 < w'.heap.size := by omega); (try have hS3 : w.heap.size + 1 + 1 + 1 < w'.heap.size := by omega)))
      refine wp_region_past (by kernel_rfl) (by kernel_rfl) ?_
      repeat (first | go_big_quiet_skip | (go_big_quiet_want; go_big_quiet_op; first | go_big_quiet_on | (apply Exists.intro; refine ⟨fun _ => ?_, ?_⟩; (focus (fail)); go_big_quiet_on)))
      refine wpQuiet_nil ?_
      intro w1 hw'
      have hB1 := past_below hw'
      clear hw'
      obtain ⟨hC1, hF1⟩ := bcell hB1
      have hS1 := hB1.size
      (try simp at hS1)
      (try have hS1_w0 : w.heap.size < w1.heap.size := by omega)
      (try have hS1_w1 : w.heap.size + 1 < w1.heap.size := by omega)
      (try have hS1_w2 : w.heap.size + 1 + 1 < w1.heap.size := by omega)
      (try have hS1_w3 : w.heap.size + 1 + 1 + 1 < w1.heap.size := by omega)
      (try have hS1_w4 : w.heap.size + 1 + 1 + 1 + 1 < w1.heap.size := by omega)
      go_wp2
      refine bodyPost_ret (v := .tuple #[.int .i64 (valW p q r a b), .int .i64 (valW p q r c d), .int .i64 (valW p q r e f), .bool true]) (by simp [results, Try.results14, go_sem]) rfl ⟨ret_iiib (by go_light; rw [hs.out]) (by go_light; rw [hs.out]) (by go_light; rw [hs.out]) (by go_light; simp [*]), ?_⟩
      repeat (first | with_reducible exact Below.refl _ _ | with_reducible assumption | ((with_reducible refine blA ?_ ?_); (focus (first | omega | (simp <;> omega)))) | (with_reducible refine blD ?_) | (with_reducible refine blN ?_) | ((with_reducible refine blS ?_ ?_); (focus (first | omega | (simp <;> omega)))) | ((with_reducible refine blT (by assumption) ?_ ?_); (focus (first | omega | (simp <;> omega)))))
    · have hs : Hid (∀ x y, nodeV p q r a b c d e f x y = 0) := by show ∀ x y, _; intro x y; simp [nodeV, c2]
      have c2' : nodeB a b c d e f = false := by simpa using c2
      clear c2
      go_enter Try.func14, Try.ntmps14
      go_wp2_with (first | (go_at_call 31; refine (IsForm_any _ _ _ _).mono ?_; rintro e w' ⟨rfl, hB⟩; obtain ⟨hC, hF⟩ := bcell hB; have hS := hB.size; (try simp at hS); (try have hSl := Nat.lt_of_succ_le hS); (try have hS0 : w.heap.size < w'.heap.size := by omega); (try have hS1 : w.heap.size + 1 < w'.heap.size := by omega); (try have hS2 : w.heap.size + 1 + 1 < w'.heap.size := by omega); (try have hS3 : w.heap.size + 1 + 1 + 1 < w'.heap.size := by omega)) | (go_at_call 28; refine (isNode_any _ _ _ _ _ _ _).mono ?_; rintro e w' ⟨rfl, hB⟩; obtain ⟨hC, hF⟩ := bcell hB; have hS := hB.size; (try simp at hS); (try have hSl := Nat.lt_of_succ_le hS); (try have hS0 : w.heap.size < w'.heap.size := by omega); (try have hS1 : w.heap.size + 1 < w'.heap.size := by omega); (try have hS2 : w.heap.size + 1 + 1 < w'.heap.size := by omega); (try have hS3 : w.heap.size + 1 + 1 + 1 < w'.heap.size := by omega)))
      refine bodyPost_ret (v := .tuple #[.int .i64 0, .int .i64 0, .int .i64 0, .bool false]) (by simp [results, Try.results14, go_sem]) rfl ⟨ret_iiib (by go_light; rw [hs.out]) (by go_light; rw [hs.out]) (by go_light; rw [hs.out]) (by go_light; simp [*]), ?_⟩
      repeat (first | with_reducible exact Below.refl _ _ | with_reducible assumption | ((with_reducible refine blA ?_ ?_); (focus (first | omega | (simp <;> omega)))) | (with_reducible refine blD ?_) | (with_reducible refine blN ?_) | ((with_reducible refine blS ?_ ?_); (focus (first | omega | (simp <;> omega)))) | ((with_reducible refine blT (by assumption) ?_ ?_); (focus (first | omega | (simp <;> omega)))))
  · have hs : Hid (∀ x y, nodeV p q r a b c d e f x y = 0) := by show ∀ x y, _; intro x y; simp [nodeV, c1]
    have c1' : formB p q r = false := by simpa using c1
    clear c1
    go_enter Try.func14, Try.ntmps14
    go_wp2_with (first | (go_at_call 31; refine (IsForm_any _ _ _ _).mono ?_; rintro e w' ⟨rfl, hB⟩; obtain ⟨hC, hF⟩ := bcell hB; have hS := hB.size; (try simp at hS); (try have hSl := Nat.lt_of_succ_le hS); (try have hS0 : w.heap.size < w'.heap.size := by omega); (try have hS1 : w.heap.size + 1 < w'.heap.size := by omega); (try have hS2 : w.heap.size + 1 + 1 < w'.heap.size := by omega); (try have hS3 : w.heap.size + 1 + 1 + 1 < w'.heap.size := by omega)))
    refine bodyPost_ret (v := .tuple #[.int .i64 0, .int .i64 0, .int .i64 0, .bool false]) (by simp [results, Try.results14, go_sem]) rfl ⟨ret_iiib (by go_light; rw [hs.out]) (by go_light; rw [hs.out]) (by go_light; rw [hs.out]) (by go_light; simp [*]), ?_⟩
    repeat (first | with_reducible exact Below.refl _ _ | with_reducible assumption | ((with_reducible refine blA ?_ ?_); (focus (first | omega | (simp <;> omega)))) | (with_reducible refine blD ?_) | (with_reducible refine blN ?_) | ((with_reducible refine blS ?_ ?_); (focus (first | omega | (simp <;> omega)))) | ((with_reducible refine blT (by assumption) ?_ ?_); (focus (first | omega | (simp <;> omega)))))
set_option maxHeartbeats 800000 in
theorem specNodeValues_any (p q r a b c d e f : Int) (w : World) :
    Calls Try.prog 12 #[.agg #[.int .i64 p, .int .i64 q, .int .i64 r], .agg #[.int .i64 a, .int .i64 b, .int .i64 c, .int .i64 d, .int .i64 e, .int .i64 f]] w fun en w' => en = .returned (.tuple #[.int .i64 (nodeV p q r a b c d e f a b), .int .i64 (nodeV p q r a b c d e f c d), .int .i64 (nodeV p q r a b c d e f e f), .bool (formB p q r && nodeB a b c d e f)]) ∧ Below w.heap.size w w' := by
  by_cases c1 : formB p q r = true
  · by_cases c2 : nodeB a b c d e f = true
    · have hs : Hid (∀ x y, nodeV p q r a b c d e f x y = valW p q r x y) := by show ∀ x y, _; intro x y; simp [nodeV, c1, c2]
      go_enter Try.func12, Try.ntmps12
      go_wp2_with (first | (go_at_call 29; refine (foGood_any _ _ _ _).mono ?_; rintro e w' ⟨rfl, hB⟩; obtain ⟨hC, hF⟩ := bcell hB; have hS := hB.size; (try simp at hS); (try have hSl := Nat.lt_of_succ_le hS); (try have hS0 : w.heap.size < w'.heap.size := by omega); (try have hS1 : w.heap.size + 1 < w'.heap.size := by omega); (try have hS2 : w.heap.size + 1 + 1 < w'.heap.size := by omega); (try have hS3 : w.heap.size + 1 + 1 + 1 < w'.heap.size := by omega)) | (go_at_call 26; refine (tpGood_any _ _ _ _ _ _ _).mono ?_; rintro e w' ⟨rfl, hB⟩; obtain ⟨hC, hF⟩ := bcell hB; have hS := hB.size; (try simp at hS); (try have hSl := Nat.lt_of_succ_le hS); (try have hS0 : w.heap.size < w'.heap.size := by omega); (try have hS1 : w.heap.size + 1 < w'.heap.size := by omega); (try have hS2 : w.heap.size + 1 + 1 < w'.heap.size := by omega); (try have hS3 : w.heap.size + 1 + 1 + 1 < w'.heap.size := by omega)))
      refine wp_region_past (by kernel_rfl) (by kernel_rfl) ?_
      repeat (first | go_big_quiet_skip | (go_big_quiet_want; go_big_quiet_op; first | go_big_quiet_on | (apply Exists.intro; refine ⟨fun _ => ?_, ?_⟩; (focus ((go_at_call 30; exact past_of (foValue_any _ _ _ _ _ _)))); go_big_quiet_on)))
      refine wpQuiet_nil ?_
      intro w1 hw'
      have hB1 := past_below hw'
      clear hw'
      obtain ⟨hC1, hF1⟩ := bcell hB1
      have hS1 := hB1.size
      (try simp at hS1)
      (try have hS1_w0 : w.heap.size < w1.heap.size := by omega)
      (try have hS1_w1 : w.heap.size + 1 < w1.heap.size := by omega)
      (try have hS1_w2 : w.heap.size + 1 + 1 < w1.heap.size := by omega)
      (try have hS1_w3 : w.heap.size + 1 + 1 + 1 < w1.heap.size := by omega)
      (try have hS1_w4 : w.heap.size + 1 + 1 + 1 + 1 < w1.heap.size := by omega)
      go_wp2
      refine bodyPost_ret (v := .tuple #[.int .i64 (valW p q r a b), .int .i64 (valW p q r c d), .int .i64 (valW p q r e f), .bool true]) (by simp [results, Try.results12, go_sem]) rfl ⟨ret_iiib (by go_light; rw [hs.out]) (by go_light; rw [hs.out]) (by go_light; rw [hs.out]) (by go_light; simp [*]), ?_⟩
      repeat (first | with_reducible exact Below.refl _ _ | with_reducible assumption | ((with_reducible refine blA ?_ ?_); (focus (first | omega | (simp <;> omega)))) | (with_reducible refine blD ?_) | (with_reducible refine blN ?_) | ((with_reducible refine blS ?_ ?_); (focus (first | omega | (simp <;> omega)))) | ((with_reducible refine blT (by assumption) ?_ ?_); (focus (first | omega | (simp <;> omega)))))
    · have hs : Hid (∀ x y, nodeV p q r a b c d e f x y = 0) := by show ∀ x y, _; intro x y; simp [nodeV, c2]
      have c2' : nodeB a b c d e f = false := by simpa using c2
      clear c2
      go_enter Try.func12, Try.ntmps12
      go_wp2_with (first | (go_at_call 29; refine (foGood_any _ _ _ _).mono ?_; rintro e w' ⟨rfl, hB⟩; obtain ⟨hC, hF⟩ := bcell hB; have hS := hB.size; (try simp at hS); (try have hSl := Nat.lt_of_succ_le hS); (try have hS0 : w.heap.size < w'.heap.size := by omega); (try have hS1 : w.heap.size + 1 < w'.heap.size := by omega); (try have hS2 : w.heap.size + 1 + 1 < w'.heap.size := by omega); (try have hS3 : w.heap.size + 1 + 1 + 1 < w'.heap.size := by omega)) | (go_at_call 26; refine (tpGood_any _ _ _ _ _ _ _).mono ?_; rintro e w' ⟨rfl, hB⟩; obtain ⟨hC, hF⟩ := bcell hB; have hS := hB.size; (try simp at hS); (try have hSl := Nat.lt_of_succ_le hS); (try have hS0 : w.heap.size < w'.heap.size := by omega); (try have hS1 : w.heap.size + 1 < w'.heap.size := by omega); (try have hS2 : w.heap.size + 1 + 1 < w'.heap.size := by omega); (try have hS3 : w.heap.size + 1 + 1 + 1 < w'.heap.size := by omega)))
      refine bodyPost_ret (v := .tuple #[.int .i64 0, .int .i64 0, .int .i64 0, .bool false]) (by simp [results, Try.results12, go_sem]) rfl ⟨ret_iiib (by go_light; rw [hs.out]) (by go_light; rw [hs.out]) (by go_light; rw [hs.out]) (by go_light; simp [*]), ?_⟩
      repeat (first | with_reducible exact Below.refl _ _ | with_reducible assumption | ((with_reducible refine blA ?_ ?_); (focus (first | omega | (simp <;> omega)))) | (with_reducible refine blD ?_) | (with_reducible refine blN ?_) | ((with_reducible refine blS ?_ ?_); (focus (first | omega | (simp <;> omega)))) | ((with_reducible refine blT (by assumption) ?_ ?_); (focus (first | omega | (simp <;> omega)))))
  · have hs : Hid (∀ x y, nodeV p q r a b c d e f x y = 0) := by show ∀ x y, _; intro x y; simp [nodeV, c1]
    have c1' : formB p q r = false := by simpa using c1
    clear c1
    go_enter Try.func12, Try.ntmps12
    go_wp2_with (first | (go_at_call 29; refine (foGood_any _ _ _ _).mono ?_; rintro e w' ⟨rfl, hB⟩; obtain ⟨hC, hF⟩ := bcell hB; have hS := hB.size; (try simp at hS); (try have hSl := Nat.lt_of_succ_le hS); (try have hS0 : w.heap.size < w'.heap.size := by omega); (try have hS1 : w.heap.size + 1 < w'.heap.size := by omega); (try have hS2 : w.heap.size + 1 + 1 < w'.heap.size := by omega); (try have hS3 : w.heap.size + 1 + 1 + 1 < w'.heap.size := by omega)))
    refine bodyPost_ret (v := .tuple #[.int .i64 0, .int .i64 0, .int .i64 0, .bool false]) (by simp [results, Try.results12, go_sem]) rfl ⟨ret_iiib (by go_light; rw [hs.out]) (by go_light; rw [hs.out]) (by go_light; rw [hs.out]) (by go_light; simp [*]), ?_⟩
    repeat (first | with_reducible exact Below.refl _ _ | with_reducible assumption | ((with_reducible refine blA ?_ ?_); (focus (first | omega | (simp <;> omega)))) | (with_reducible refine blD ?_) | (with_reducible refine blN ?_) | ((with_reducible refine blS ?_ ?_); (focus (first | omega | (simp <;> omega)))) | ((with_reducible refine blT (by assumption) ?_ ?_); (focus (first | omega | (simp <;> omega)))))
set_option maxHeartbeats 800000 in
theorem law_nodeValues (p q r a b c d e f : Int) (w : World) (_ : I64 p) (_ : I64 q) (_ : I64 r) (_ : I64 a) (_ : I64 b) (_ : I64 c) (_ : I64 d) (_ : I64 e) (_ : I64 f) :
    Calls Try.prog 4 #[.agg #[.int .i64 p, .int .i64 q, .int .i64 r], .agg #[.int .i64 a, .int .i64 b, .int .i64 c, .int .i64 d, .int .i64 e, .int .i64 f]] w fun en w' => en = .returned (.bool true) ∧ Below w.heap.size w w' := by
  go_enter Try.func4, Try.ntmps4
  go_wp2_with fail
  refine wp_region_past (by kernel_rfl) (by kernel_rfl) ?_
  repeat (first | go_big_quiet_skip | (go_big_quiet_want; go_big_quiet_op; first | go_big_quiet_on | (apply Exists.intro; refine ⟨fun _ => ?_, ?_⟩; (focus (first | (go_at_call 13; exact past_of (toForm_any _ _ _ _)) | (go_at_call 10; exact past_of (toNode_any _ _ _ _ _ _ _)) | (go_at_call 12; exact past_of (specNodeValues_any _ _ _ _ _ _ _ _ _ _)))); go_big_quiet_on)))
  refine wpQuiet_nil ?_
  intro w1 hw'
  have hB1 := past_below hw'
  clear hw'
  obtain ⟨hC1, hF1⟩ := bcell hB1
  have hS1 := hB1.size
  (try simp at hS1)
  (try have hS1_w0 : w.heap.size < w1.heap.size := by omega)
  (try have hS1_w1 : w.heap.size + 1 < w1.heap.size := by omega)
  (try have hS1_w2 : w.heap.size + 1 + 1 < w1.heap.size := by omega)
  (try have hS1_w3 : w.heap.size + 1 + 1 + 1 < w1.heap.size := by omega)
  (try have hS1_w4 : w.heap.size + 1 + 1 + 1 + 1 < w1.heap.size := by omega)
  go_wp2_with fail
  refine wp_region_past (by kernel_rfl) (by kernel_rfl) ?_
  repeat (first | go_big_quiet_skip | (go_big_quiet_want; go_big_quiet_op; first | go_big_quiet_on | (apply Exists.intro; refine ⟨fun _ => ?_, ?_⟩; (focus (first | (go_at_call 13; exact past_of (toForm_any _ _ _ _)) | (go_at_call 10; exact past_of (toNode_any _ _ _ _ _ _ _)) | (go_at_call 14; exact past_of (implNodeValues_any _ _ _ _ _ _ _ _ _ _)))); go_big_quiet_on)))
  refine wpQuiet_nil ?_
  intro w2 hw'
  have hB2 := past_below hw'
  clear hw'
  obtain ⟨hC2, hF2⟩ := bcell hB2
  have hS2 := hB2.size
  (try simp at hS2)
  (try have hS2_w0 : w.heap.size < w2.heap.size := by omega)
  (try have hS2_w1 : w.heap.size + 1 < w2.heap.size := by omega)
  (try have hS2_w2 : w.heap.size + 1 + 1 < w2.heap.size := by omega)
  (try have hS2_w3 : w.heap.size + 1 + 1 + 1 < w2.heap.size := by omega)
  (try have hS2_w4 : w.heap.size + 1 + 1 + 1 + 1 < w2.heap.size := by omega)
  (try have hS2_1 : w1.heap.size < w2.heap.size := by omega)
  (try have hS2_1' : w1.heap.size + 1 < w2.heap.size := by omega)
  go_wp2
  go_ret
  refine ⟨rfl, ?_⟩
  repeat (first | with_reducible exact Below.refl _ _ | with_reducible assumption | ((with_reducible refine blA ?_ ?_); (focus (first | omega | (simp <;> omega)))) | (with_reducible refine blD ?_) | (with_reducible refine blN ?_) | ((with_reducible refine blS ?_ ?_); (focus (first | omega | (simp <;> omega)))) | ((with_reducible refine blT (by assumption) ?_ ?_); (focus (first | omega | (simp <;> omega)))))
end Go.Proofs.Ytbdcdgdbgmgcgaa
