/-
  IdealPower: both ways, and the law.
-/
import Derived.Test.YtladcjoiaoaedaaMulS
import Derived.Test.YtladcjoiaoaedaaPi
namespace Go.Proofs.Ytladcjoiaoaedaa
open Go.RowKit
attribute [local simp, local go_sem] past_cell past_frozen past_tape
/-- The argument's block, the result's and the power's. -/
structure Pw (w wr : World) (V : Nat) (e a b X Y Z : Int) : Prop where
  hV : ∀ o, wr.cell? ⟨V, o, none⟩ = (#[.int .i64 X, .int .i64 Y, .int .i64 Z] : Array Value)[o]?
  hVf : ∀ o, wr.frozen? ⟨V, o, none⟩ = false
  hX : ∀ o, wr.cell? ⟨w.heap.size, o, none⟩ = (#[.int .i64 e, .int .i64 a, .int .i64 b] : Array Value)[o]?
  hR : ∀ o, wr.cell? ⟨w.heap.size + 1, o, none⟩ = (#[.int .i64 0, .int .i64 0, .int .i64 0] : Array Value)[o]?
  hRf : ∀ o, wr.frozen? ⟨w.heap.size + 1, o, none⟩ = false
  ltV : w.heap.size + 1 < V
  sz : V < wr.heap.size
  below : Below w.heap.size w wr
theorem trip_set (w1 : World) (B : Nat) (a b c x y z : Int) (h : ∀ o, w1.cell? ⟨B, o, none⟩ = (#[.int .i64 a, .int .i64 b, .int .i64 c] : Array Value)[o]?) (o : Nat) :
    (((w1.setCell ⟨B, 0, none⟩ (.int .i64 x)).setCell ⟨B, 1, none⟩ (.int .i64 y)).setCell ⟨B, 2, none⟩ (.int .i64 z)).cell? ⟨B, o, none⟩ = (#[.int .i64 x, .int .i64 y, .int .i64 z] : Array Value)[o]? := by
  match o with
  | 0 => rw [set_other _ _ _ _ _ _ (by omega), set_other _ _ _ _ _ _ (by omega), set_same _ _ _ _ _ (h 0)]; rfl
  | 1 => rw [set_other _ _ _ _ _ _ (by omega), set_same _ _ _ _ (.int .i64 b) (by rw [set_other _ _ _ _ _ _ (by omega), h]; rfl)]; rfl
  | 2 => rw [set_same _ _ _ _ (.int .i64 c) (by rw [set_other _ _ _ _ _ _ (by omega), set_other _ _ _ _ _ _ (by omega), h]; rfl)]; rfl
  | n + 3 => rw [set_other _ _ _ _ _ _ (by omega), set_other _ _ _ _ _ _ (by omega), set_other _ _ _ _ _ _ (by omega), h]; rfl
theorem Pw.later {w wr w1 : World} {V : Nat} {e a b X Y Z : Int} (h : Pw w wr V e a b X Y Z) (hB : Below wr.heap.size wr w1) : Pw w w1 V e a b X Y Z := by
  have hz := hB.size
  have hsz := h.sz
  have hlt := h.ltV
  refine ⟨fun o => by rw [bG hB hsz, h.hV], fun o => by rw [fG hB hsz, h.hVf], fun o => by rw [bG hB (by omega), h.hX], fun o => by rw [bG hB (by omega), h.hR], fun o => by rw [fG hB (by omega), h.hRf], hlt, by omega, ?_⟩
  have hb := h.below
  have hbs := hb.size
  repeat (first | with_reducible exact Below.refl _ _ | with_reducible assumption | ((with_reducible refine blA ?_ ?_); (focus (first | omega | (simp <;> omega)))) | (with_reducible refine blD ?_) | (with_reducible refine blN ?_) | ((with_reducible refine blS ?_ ?_); (focus (first | omega | (simp <;> omega)))) | ((with_reducible refine blT (by assumption) ?_ ?_); (focus (first | omega | (simp <;> omega)))))
theorem Pw.set {w wr : World} {V : Nat} {e a b X Y Z : Int} (h : Pw w wr V e a b X Y Z) (x y z : Int) : Pw w (((wr.setCell ⟨V, 0, none⟩ (.int .i64 x)).setCell ⟨V, 1, none⟩ (.int .i64 y)).setCell ⟨V, 2, none⟩ (.int .i64 z)) V e a b x y z := by
  have hsz := h.sz
  have hlt := h.ltV
  refine ⟨trip_set wr V X Y Z x y z h.hV, fun o => by simp [go_sem, h.hVf], fun o => ?_, fun o => ?_, fun o => by simp [go_sem, h.hRf], hlt, by simp; omega, ?_⟩
  · rw [set_other _ _ _ _ _ _ (by omega), set_other _ _ _ _ _ _ (by omega), set_other _ _ _ _ _ _ (by omega), h.hX]
  · rw [set_other _ _ _ _ _ _ (by omega), set_other _ _ _ _ _ _ (by omega), set_other _ _ _ _ _ _ (by omega), h.hR]
  · have hb := h.below
    have hbs := hb.size
    repeat (first | with_reducible exact Below.refl _ _ | with_reducible assumption | ((with_reducible refine blA ?_ ?_); (focus (first | omega | (simp <;> omega)))) | (with_reducible refine blD ?_) | (with_reducible refine blN ?_) | ((with_reducible refine blS ?_ ?_); (focus (first | omega | (simp <;> omega)))) | ((with_reducible refine blT (by assumption) ?_ ?_); (focus (first | omega | (simp <;> omega)))))
/-- The next power, and all of them. -/
def pwQ (d e a b : Int) (p : Int × Int × Int) : Int × Int × Int := (muE d p.1 p.2.1 p.2.2 e a b, lA (mulL d p.2.1 p.2.2 a b), lB (mulL d p.2.1 p.2.2 a b))
def pwF (d e a b : Int) : Nat → Int × Int × Int → (Int × Int × Int) × Bool
  | 0, p => (p, true)
  | n + 1, p => if idB d (pwQ d e a b p).1 (pwQ d e a b p).2.1 (pwQ d e a b p).2.2 then pwF d e a b n (pwQ d e a b p) else ((0, 0, 0), false)
def pwR (d e a b k : Int) : (Int × Int × Int) × Bool := if fnB d && idB d e a b && decide (0 ≤ k ∧ k ≤ 20) then pwF d e a b k.toNat (1, 1, d % 2) else ((0, 0, 0), false)
theorem idB_unit {d : Int} (h : fnB d = true) : idB d 1 1 (d % 2) = true := by
  have hn := fnB_neg h
  obtain ⟨h1, h2, h3⟩ := negB_true hn
  unfold idB
  refine decide_eq_true ⟨hn, by omega, by omega, by omega, by omega, by omega, by omega, ?_⟩
  rcases (by omega : d % 2 = 0 ∨ d % 2 = 1) with h | h <;> rw [h] <;> omega
theorem isWhole_any (d e a b : Int) (w : World) (hd : I64 d) : Calls Try.prog 42 #[.int .i64 d, .agg #[.int .i64 e, .int .i64 a, .int .i64 b]] w fun en w' => en = .returned (.bool (fnB d && idB d e a b)) ∧ Below w.heap.size w w' := by
  cases c : fnB d with
  | true =>
    go_enter Try.func42, Try.ntmps42
    go_wp2_with (first | (go_at_call 38; refine (isFundNeg_any _ _ hd).mono ?_; rintro e w' ⟨rfl, rfl⟩) | (go_at_call 49; refine (isIdeal_any _ _ _ _ _ hd).mono ?_; rintro e w' ⟨rfl, hB⟩; obtain ⟨hC, hF⟩ := bcell hB; have hS := hB.size; (try simp at hS); (try have hSl := Nat.lt_of_succ_le hS); (try have hS0 : w.heap.size < w'.heap.size := by omega); (try have hS1 : w.heap.size + 1 < w'.heap.size := by omega); (try have hS2 : w.heap.size + 1 + 1 < w'.heap.size := by omega); (try have hS3 : w.heap.size + 1 + 1 + 1 < w'.heap.size := by omega)))
    (refine bodyPost_ret (v := .bool (idB d e a b)) ?_ rfl ⟨?_, ?_⟩; (focus (go_light; first | (simp [results, Try.results42, go_sem, *]; done) | (simp (disch := first | omega | (simp <;> omega) | (refine isSome_of ?_ ?_; (focus ((repeat (first | ((with_reducible refine (cell_alloc_old _ _ _ _ ?_).trans ?_); (focus (first | omega | (simp <;> omega)))) | ((with_reducible refine (bG (by assumption) ?_).trans ?_); (focus (first | omega | (simp <;> omega)))))); exact rfl)); simp [go_sem]) | fail) [results, Try.results42, go_sem, *]; done))); (focus (go_light; rw [Bool.true_and])); repeat (first | with_reducible exact Below.refl _ _ | with_reducible assumption | ((with_reducible refine blA ?_ ?_); (focus (first | omega | (simp <;> omega)))) | (with_reducible refine blD ?_) | (with_reducible refine blN ?_) | ((with_reducible refine blS ?_ ?_); (focus (first | omega | (simp <;> omega)))) | ((with_reducible refine blT (by assumption) ?_ ?_); (focus (first | omega | (simp <;> omega))))))
  | false =>
    go_enter Try.func42, Try.ntmps42
    go_wp2_with (first | (go_at_call 38; refine (isFundNeg_any _ _ hd).mono ?_; rintro e w' ⟨rfl, rfl⟩) | (go_at_call 49; refine (isIdeal_any _ _ _ _ _ hd).mono ?_; rintro e w' ⟨rfl, hB⟩; obtain ⟨hC, hF⟩ := bcell hB; have hS := hB.size; (try simp at hS); (try have hSl := Nat.lt_of_succ_le hS); (try have hS0 : w.heap.size < w'.heap.size := by omega); (try have hS1 : w.heap.size + 1 < w'.heap.size := by omega); (try have hS2 : w.heap.size + 1 + 1 < w'.heap.size := by omega); (try have hS3 : w.heap.size + 1 + 1 + 1 < w'.heap.size := by omega)))
    (refine bodyPost_ret (v := .bool false) ?_ rfl ⟨?_, ?_⟩; (focus (go_light; first | (simp [results, Try.results42, go_sem, *]; done) | (simp (disch := first | omega | (simp <;> omega) | (refine isSome_of ?_ ?_; (focus ((repeat (first | ((with_reducible refine (cell_alloc_old _ _ _ _ ?_).trans ?_); (focus (first | omega | (simp <;> omega)))) | ((with_reducible refine (bG (by assumption) ?_).trans ?_); (focus (first | omega | (simp <;> omega)))))); exact rfl)); simp [go_sem]) | fail) [results, Try.results42, go_sem, *]; done))); (focus (go_light; rw [Bool.false_and])); repeat (first | with_reducible exact Below.refl _ _ | with_reducible assumption | ((with_reducible refine blA ?_ ?_); (focus (first | omega | (simp <;> omega)))) | (with_reducible refine blD ?_) | (with_reducible refine blN ?_) | ((with_reducible refine blS ?_ ?_); (focus (first | omega | (simp <;> omega)))) | ((with_reducible refine blT (by assumption) ?_ ?_); (focus (first | omega | (simp <;> omega))))))
theorem piGood_any (d e a b : Int) (w : World) (hd : I64 d) : Calls Try.prog 40 #[.int .i64 d, .agg #[.int .i64 e, .int .i64 a, .int .i64 b]] w fun en w' => en = .returned (.bool (fnB d && idB d e a b)) ∧ Below w.heap.size w w' := by
  cases c : fnB d with
  | true =>
    go_enter Try.func40, Try.ntmps40
    go_wp2_with (first | (go_at_call 35; refine (piDisc_any _ _ hd).mono ?_; rintro e w' ⟨rfl, rfl⟩) | (go_at_call 46; refine (idGood_any _ _ _ _ _ hd).mono ?_; rintro e w' ⟨rfl, hB⟩; obtain ⟨hC, hF⟩ := bcell hB; have hS := hB.size; (try simp at hS); (try have hSl := Nat.lt_of_succ_le hS); (try have hS0 : w.heap.size < w'.heap.size := by omega); (try have hS1 : w.heap.size + 1 < w'.heap.size := by omega); (try have hS2 : w.heap.size + 1 + 1 < w'.heap.size := by omega); (try have hS3 : w.heap.size + 1 + 1 + 1 < w'.heap.size := by omega)))
    (refine bodyPost_ret (v := .bool (idB d e a b)) ?_ rfl ⟨?_, ?_⟩; (focus (go_light; first | (simp [results, Try.results40, go_sem, *]; done) | (simp (disch := first | omega | (simp <;> omega) | (refine isSome_of ?_ ?_; (focus ((repeat (first | ((with_reducible refine (cell_alloc_old _ _ _ _ ?_).trans ?_); (focus (first | omega | (simp <;> omega)))) | ((with_reducible refine (bG (by assumption) ?_).trans ?_); (focus (first | omega | (simp <;> omega)))))); exact rfl)); simp [go_sem]) | fail) [results, Try.results40, go_sem, *]; done))); (focus (go_light; rw [Bool.true_and])); repeat (first | with_reducible exact Below.refl _ _ | with_reducible assumption | ((with_reducible refine blA ?_ ?_); (focus (first | omega | (simp <;> omega)))) | (with_reducible refine blD ?_) | (with_reducible refine blN ?_) | ((with_reducible refine blS ?_ ?_); (focus (first | omega | (simp <;> omega)))) | ((with_reducible refine blT (by assumption) ?_ ?_); (focus (first | omega | (simp <;> omega))))))
  | false =>
    go_enter Try.func40, Try.ntmps40
    go_wp2_with (first | (go_at_call 35; refine (piDisc_any _ _ hd).mono ?_; rintro e w' ⟨rfl, rfl⟩) | (go_at_call 46; refine (idGood_any _ _ _ _ _ hd).mono ?_; rintro e w' ⟨rfl, hB⟩; obtain ⟨hC, hF⟩ := bcell hB; have hS := hB.size; (try simp at hS); (try have hSl := Nat.lt_of_succ_le hS); (try have hS0 : w.heap.size < w'.heap.size := by omega); (try have hS1 : w.heap.size + 1 < w'.heap.size := by omega); (try have hS2 : w.heap.size + 1 + 1 < w'.heap.size := by omega); (try have hS3 : w.heap.size + 1 + 1 + 1 < w'.heap.size := by omega)))
    (refine bodyPost_ret (v := .bool false) ?_ rfl ⟨?_, ?_⟩; (focus (go_light; first | (simp [results, Try.results40, go_sem, *]; done) | (simp (disch := first | omega | (simp <;> omega) | (refine isSome_of ?_ ?_; (focus ((repeat (first | ((with_reducible refine (cell_alloc_old _ _ _ _ ?_).trans ?_); (focus (first | omega | (simp <;> omega)))) | ((with_reducible refine (bG (by assumption) ?_).trans ?_); (focus (first | omega | (simp <;> omega)))))); exact rfl)); simp [go_sem]) | fail) [results, Try.results40, go_sem, *]; done))); (focus (go_light; rw [Bool.false_and])); repeat (first | with_reducible exact Below.refl _ _ | with_reducible assumption | ((with_reducible refine blA ?_ ?_); (focus (first | omega | (simp <;> omega)))) | (with_reducible refine blD ?_) | (with_reducible refine blN ?_) | ((with_reducible refine blS ?_ ?_); (focus (first | omega | (simp <;> omega)))) | ((with_reducible refine blT (by assumption) ?_ ?_); (focus (first | omega | (simp <;> omega))))))
theorem unitIdeal_any (d : Int) (w : World) (hd : I64 d) : Calls Try.prog 47 #[.int .i64 d] w fun en w' => en = .returned (.agg #[.int .i64 1, .int .i64 1, .int .i64 (d % 2)]) ∧ Below w.heap.size w w' := by
  go_enter Try.func47, Try.ntmps47
  go_wp2_with (go_at_call 78; refine (mod_any _ _ _ hd (by omega) (by omega)).mono ?_; rintro e w' ⟨rfl, rfl⟩)
  (refine bodyPost_ret (v := .agg #[.int .i64 1, .int .i64 1, .int .i64 (d % 2)]) ?_ rfl ⟨?_, ?_⟩; (focus (go_light; first | (simp [results, Try.results47, go_sem, *]; done) | (simp (disch := first | omega | (simp <;> omega) | (refine isSome_of ?_ ?_; (focus ((repeat (first | ((with_reducible refine (cell_alloc_old _ _ _ _ ?_).trans ?_); (focus (first | omega | (simp <;> omega)))) | ((with_reducible refine (bG (by assumption) ?_).trans ?_); (focus (first | omega | (simp <;> omega)))))); exact rfl)); simp [go_sem]) | fail) [results, Try.results47, go_sem, *]; done))); (focus (rfl)); repeat (first | with_reducible exact Below.refl _ _ | with_reducible assumption | ((with_reducible refine blA ?_ ?_); (focus (first | omega | (simp <;> omega)))) | (with_reducible refine blD ?_) | (with_reducible refine blN ?_) | ((with_reducible refine blS ?_ ?_); (focus (first | omega | (simp <;> omega)))) | ((with_reducible refine blT (by assumption) ?_ ?_); (focus (first | omega | (simp <;> omega))))))
set_option maxRecDepth 100000 in
set_option maxHeartbeats 2000000 in
theorem implIdealPower_any (d e a b k : Int) (w : World) (hd : I64 d) (hk : I64 k) :
    Calls Try.prog 23 #[.int .i64 d, .agg #[.int .i64 e, .int .i64 a, .int .i64 b], .int .i64 k] w fun en w' => en = .returned (.tuple #[.agg #[.int .i64 ((pwR d e a b k).1.1), .int .i64 ((pwR d e a b k).1.2.1), .int .i64 ((pwR d e a b k).1.2.2)], .bool (pwR d e a b k).2]) ∧ Below w.heap.size w w' := by
  obtain ⟨k1, k2⟩ := hk
  by_cases c : (fnB d && idB d e a b) = true
  · by_cases ck : 0 ≤ k ∧ k ≤ 20
    · obtain ⟨n, rfl⟩ : ∃ n : Nat, k = (n : Int) := ⟨k.toNat, by omega⟩
      have hn : n ≤ 20 := by omega
      have hfn : fnB d = true := by simp only [Bool.and_eq_true] at c; exact c.1
      have hib : idB d e a b = true := by simp only [Bool.and_eq_true] at c; exact c.2
      have HIB := Lib.hid hib
      have hU := Lib.hid (idB_unit hfn)
      obtain ⟨R, hR⟩ : ∃ R, R = pwR d e a b (n : Int) := ⟨_, rfl⟩
      have HR : Hid (pwF d e a b n (1, 1, d % 2) = R) := by
        show _ = _
        rw [hR, pwR, c, decide_eq_true ck, Bool.true_and, if_pos rfl, Int.toNat_natCast]
      have hw : Hid (∀ w1, Calls Try.prog 42 #[.int .i64 d, .agg #[.int .i64 e, .int .i64 a, .int .i64 b]] w1 fun en w' => en = .returned (.bool true) ∧ Below w1.heap.size w1 w') := fun w1 => by rw [← c]; exact isWhole_any d e a b w1 hd
      rw [← hR]
      obtain ⟨⟨R1, R2, R3⟩, r⟩ := R
      clear hR c hfn hib
      go_enter Try.func23, Try.ntmps23
      go_wp2_with fail
      refine (hw.out _).mono ?_
      rintro e1 w1 ⟨rfl, hB1⟩
      obtain ⟨hC1, hF1⟩ := bcell hB1
      have hS1 := hB1.size
      (try simp at hS1)
      (try have hS1_w0 : w.heap.size < w1.heap.size := by omega)
      (try have hS1_w1 : w.heap.size + 1 < w1.heap.size := by omega)
      (try have hS1_w2 : w.heap.size + 1 + 1 < w1.heap.size := by omega)
      (try have hS1_w3 : w.heap.size + 1 + 1 + 1 < w1.heap.size := by omega)
      (try have hS1_w4 : w.heap.size + 1 + 1 + 1 + 1 < w1.heap.size := by omega)
      (try have hL1_w0 : w.heap.size ≤ w1.heap.size := by omega)
      (try have hL1_w1 : w.heap.size + 1 ≤ w1.heap.size := by omega)
      (try have hL1_w2 : w.heap.size + 1 + 1 ≤ w1.heap.size := by omega)
      (try have hL1_w3 : w.heap.size + 1 + 1 + 1 ≤ w1.heap.size := by omega)
      (try have hL1_w : w.heap.size ≤ w1.heap.size + 1 := by omega)
      (try have hM1_1 : w.heap.size < w1.heap.size + 1 := by omega)
      (try have hM1_2 : w.heap.size < w1.heap.size + 1 + 1 := by omega)
      (try have hM1_3 : w.heap.size < w1.heap.size + 1 + 1 + 1 := by omega)
      go_wp2_with fail
      refine (unitIdeal_any _ _ hd).mono ?_
      rintro e2 w2 ⟨rfl, hB2⟩
      obtain ⟨hC2, hF2⟩ := bcell hB2
      have hS2 := hB2.size
      (try simp at hS2)
      (try have hS2_w0 : w.heap.size < w2.heap.size := by omega)
      (try have hS2_w1 : w.heap.size + 1 < w2.heap.size := by omega)
      (try have hS2_w2 : w.heap.size + 1 + 1 < w2.heap.size := by omega)
      (try have hS2_w3 : w.heap.size + 1 + 1 + 1 < w2.heap.size := by omega)
      (try have hS2_w4 : w.heap.size + 1 + 1 + 1 + 1 < w2.heap.size := by omega)
      (try have hL2_w0 : w.heap.size ≤ w2.heap.size := by omega)
      (try have hL2_w1 : w.heap.size + 1 ≤ w2.heap.size := by omega)
      (try have hL2_w2 : w.heap.size + 1 + 1 ≤ w2.heap.size := by omega)
      (try have hL2_w3 : w.heap.size + 1 + 1 + 1 ≤ w2.heap.size := by omega)
      (try have hL2_w : w.heap.size ≤ w2.heap.size + 1 := by omega)
      (try have hM2_1 : w.heap.size < w2.heap.size + 1 := by omega)
      (try have hM2_2 : w.heap.size < w2.heap.size + 1 + 1 := by omega)
      (try have hM2_3 : w.heap.size < w2.heap.size + 1 + 1 + 1 := by omega)
      (try have hN2_1_00 : w1.heap.size < w2.heap.size := by omega)
      (try have hN2_1_01 : w1.heap.size < w2.heap.size + 1 := by omega)
      (try have hN2_1_02 : w1.heap.size < w2.heap.size + 1 + 1 := by omega)
      (try have hN2_1_10 : w1.heap.size + 1 < w2.heap.size := by omega)
      (try have hN2_1_11 : w1.heap.size + 1 < w2.heap.size + 1 := by omega)
      (try have hN2_1_12 : w1.heap.size + 1 < w2.heap.size + 1 + 1 := by omega)
      (try have hN2_1_20 : w1.heap.size + 1 + 1 < w2.heap.size := by omega)
      (try have hN2_1_21 : w1.heap.size + 1 + 1 < w2.heap.size + 1 := by omega)
      (try have hN2_1_22 : w1.heap.size + 1 + 1 < w2.heap.size + 1 + 1 := by omega)
      (try have hL2_1 : w1.heap.size ≤ w2.heap.size := by omega)
      (try have hS2_1 : w1.heap.size < w2.heap.size := by omega)
      (try have hS2_1' : w1.heap.size + 1 < w2.heap.size := by omega)
      go_wp2_with fail
      have hX0 : ∀ o, w2.cell? ⟨w.heap.size, o, none⟩ = (#[.int .i64 e, .int .i64 a, .int .i64 b] : Array Value)[o]? := by (intro o; (repeat (first | ((with_reducible refine (cell_alloc_old _ _ _ _ ?_).trans ?_); (focus (first | omega | (simp <;> omega)))) | ((with_reducible refine (bC (by assumption) ?_).trans ?_); (focus (first | omega | (simp <;> omega)))) | ((with_reducible refine (bG (by assumption) ?_).trans ?_); (focus (first | omega | (simp <;> omega)))))); simp [go_sem])
      have hR0 : ∀ o, w2.cell? ⟨w.heap.size + 1, o, none⟩ = (#[.int .i64 0, .int .i64 0, .int .i64 0] : Array Value)[o]? := by (intro o; (repeat (first | ((with_reducible refine (cell_alloc_old _ _ _ _ ?_).trans ?_); (focus (first | omega | (simp <;> omega)))) | ((with_reducible refine (bC (by assumption) ?_).trans ?_); (focus (first | omega | (simp <;> omega)))) | ((with_reducible refine (bG (by assumption) ?_).trans ?_); (focus (first | omega | (simp <;> omega)))))); simp [go_sem])
      have hF0 : ∀ o, w2.frozen? ⟨w.heap.size + 1, o, none⟩ = false := by (intro o; (repeat (first | ((with_reducible refine (frozen_alloc_old _ _ _ _ ?_).trans ?_); (focus (first | omega | (simp <;> omega)))) | ((with_reducible refine (fG (by assumption) ?_).trans ?_); (focus (first | omega | (simp <;> omega)))))); simp [go_sem])
      have hBw : Below w.heap.size w w2 := by
        repeat (first | with_reducible exact Below.refl _ _ | with_reducible assumption | ((with_reducible refine blA ?_ ?_); (focus (first | omega | (simp <;> omega)))) | (with_reducible refine blD ?_) | (with_reducible refine blN ?_) | ((with_reducible refine blS ?_ ?_); (focus (first | omega | (simp <;> omega)))) | ((with_reducible refine blT (by assumption) ?_ ?_); (focus (first | omega | (simp <;> omega)))))
      have hsz : w.heap.size + 1 < w2.heap.size := by omega
      go_loopw [2] (fun kv wr => ∃ m : Nat, ∃ x y z : Int, kv = .int .i64 (m : Int) ∧ m ≤ 20 ∧ Hid (idB d x y z = true) ∧ Hid (pwF d e a b m (x, y, z) = ((R1, R2, R3), r)) ∧ Hid (Pw w wr w2.heap.size e a b x y z)) (fun kv _ => (intOf kv).toNat)
      case atStart =>
        refine ⟨n, 1, 1, d % 2, rfl, hn, hU.out, HR.out, ?_⟩
        refine ⟨fun o => by simp [go_sem], fun o => by simp [go_sem], fun o => by rw [cell_alloc_old _ _ _ _ (by omega), hX0], fun o => by rw [cell_alloc_old _ _ _ _ (by omega), hR0], fun o => by rw [frozen_alloc_old _ _ _ _ (by omega), hF0], hsz, by simp, ?_⟩
        have hbs := hBw.size
        exact hBw.alloc (by omega) _
      case round =>
        obtain ⟨m, x, y, z, rfl, hm, hid, hst, hpw⟩ := hrel
        have gV := hpw.out.hV
        have gVf := hpw.out.hVf
        have gX := hpw.out.hX
        have gR := hpw.out.hR
        have gRf := hpw.out.hRf
        have gs := hpw.out.sz
        have gb := hpw.out.below
        have gbs := gb.size
        match m, hm, hst with
        | 0, _, hst =>
          have hst' := hst.out
          rw [pwF] at hst'
          simp only [Prod.mk.injEq] at hst'
          obtain ⟨⟨rfl, rfl, rfl⟩, rfl⟩ := hst'
          go_wp2_with fail
          (refine bodyPost_ret (v := .tuple #[.agg #[.int .i64 x, .int .i64 y, .int .i64 z], .bool true]) ?_ rfl ⟨?_, ?_⟩; (focus (go_light; first | (simp [results, Try.results23, go_sem, *]; done) | (simp (disch := first | omega | (simp <;> omega) | (refine isSome_of ?_ ?_; (focus ((repeat (first | ((with_reducible refine (cell_alloc_old _ _ _ _ ?_).trans ?_); (focus (first | omega | (simp <;> omega)))) | ((with_reducible refine (bG (by assumption) ?_).trans ?_); (focus (first | omega | (simp <;> omega)))))); exact rfl)); simp [go_sem]) | fail) [results, Try.results23, go_sem, *]; done))); (focus (rfl)); repeat (first | with_reducible exact Below.refl _ _ | with_reducible assumption | ((with_reducible refine blA ?_ ?_); (focus (first | omega | (simp <;> omega)))) | (with_reducible refine blD ?_) | (with_reducible refine blN ?_) | ((with_reducible refine blS ?_ ?_); (focus (first | omega | (simp <;> omega)))) | ((with_reducible refine blT (by assumption) ?_ ?_); (focus (first | omega | (simp <;> omega))))))
        | m + 1, hm, hst =>
          obtain ⟨wo, rfl⟩ : ∃ wo : World, wo = wr := ⟨_, rfl⟩
          have hpos : 0 < ((m + 1 : Nat) : Int) := by omega
          obtain ⟨X, Y, Z, hT, hst'⟩ : ∃ X Y Z : Int, Hid (∀ w1, Calls Try.prog 48 #[.int .i64 d, .agg #[.int .i64 x, .int .i64 y, .int .i64 z], .agg #[.int .i64 e, .int .i64 a, .int .i64 b]] w1 fun en w' => en = .returned (.agg #[.int .i64 X, .int .i64 Y, .int .i64 Z]) ∧ Below w1.heap.size w1 w') ∧ (if idB d X Y Z = true then pwF d e a b m (X, Y, Z) else ((0, 0, 0), false)) = ((R1, R2, R3), r) := ⟨_, _, _, fun w1 => idealTimes_any d x y z e a b w1 hid.out HIB.out, hst.out⟩
          cases cq : idB d X Y Z with
          | true =>
            rw [cq] at hst'
            have hG : Hid (∀ w1, Calls Try.prog 49 #[.int .i64 d, .agg #[.int .i64 X, .int .i64 Y, .int .i64 Z]] w1 fun en w' => en = .returned (.bool true) ∧ Below w1.heap.size w1 w') := fun w1 => by rw [← cq]; exact isIdeal_any d X Y Z w1 hd
            have CQ := Lib.hid cq
            rw [if_pos rfl] at hst'
            have HST := Lib.hid hst'
            clear hst' cq hst
            go_wp2_with fail
            refine (hT.out _).mono ?_
            rintro ea wa ⟨rfl, hBa⟩
            have hPa := hpw.out.later hBa
            have aV := hPa.hV
            have aVf := hPa.hVf
            have asz := hPa.sz
            go_wp2_with fail
            have hPs := Lib.hid (hPa.set X Y Z)
            clear gV gVf gX gR gRf gb aV aVf hPa
            have sV := hPs.out.hV
            refine (hG.out _).mono ?_
            rintro eb wb ⟨rfl, hBb⟩
            have hPb := Lib.hid (hPs.out.later hBb)
            clear sV hPs
            have bR := hPb.out.hR
            have bRf := hPb.out.hRf
            have bb := hPb.out.below
            have bbs := bb.size
            have bsz := hPb.out.sz
            have blt := hPb.out.ltV
            go_wp2_with fail
            go_roundw
            case rel =>
              go_light
              exact ⟨m, X, Y, Z, by go_num, by omega, CQ.out, HST.out, hPb.out⟩
            case measure => (simp [intOf]; try omega)
          | false =>
            rw [cq] at hst'
            have hG : Hid (∀ w1, Calls Try.prog 49 #[.int .i64 d, .agg #[.int .i64 X, .int .i64 Y, .int .i64 Z]] w1 fun en w' => en = .returned (.bool false) ∧ Below w1.heap.size w1 w') := fun w1 => by rw [← cq]; exact isIdeal_any d X Y Z w1 hd
            have CQ := Lib.hid cq
            rw [if_neg (by simp)] at hst'
            simp only [Prod.mk.injEq] at hst'
            obtain ⟨⟨rfl, rfl, rfl⟩, rfl⟩ := hst'
            clear cq hst
            go_wp2_with fail
            refine (hT.out _).mono ?_
            rintro ea wa ⟨rfl, hBa⟩
            have hPa := hpw.out.later hBa
            have aV := hPa.hV
            have aVf := hPa.hVf
            have asz := hPa.sz
            go_wp2_with fail
            have hPs := Lib.hid (hPa.set X Y Z)
            clear gV gVf gX gR gRf gb aV aVf hPa
            have sV := hPs.out.hV
            refine (hG.out _).mono ?_
            rintro eb wb ⟨rfl, hBb⟩
            have hPb := Lib.hid (hPs.out.later hBb)
            clear sV hPs
            have bR := hPb.out.hR
            have bRf := hPb.out.hRf
            have bb := hPb.out.below
            have bbs := bb.size
            have bsz := hPb.out.sz
            have blt := hPb.out.ltV
            go_wp2_with fail
            (refine bodyPost_ret (v := .tuple #[.agg #[.int .i64 0, .int .i64 0, .int .i64 0], .bool false]) ?_ rfl ⟨?_, ?_⟩; (focus (go_light; first | (simp [results, Try.results23, go_sem, *]; done) | (simp (disch := first | omega | (simp <;> omega) | (refine isSome_of ?_ ?_; (focus ((repeat (first | ((with_reducible refine (cell_alloc_old _ _ _ _ ?_).trans ?_); (focus (first | omega | (simp <;> omega)))) | ((with_reducible refine (bG (by assumption) ?_).trans ?_); (focus (first | omega | (simp <;> omega)))))); exact rfl)); simp [go_sem]) | fail) [results, Try.results23, go_sem, *]; done))); (focus (rfl)); repeat (first | with_reducible exact Below.refl _ _ | with_reducible assumption | ((with_reducible refine blA ?_ ?_); (focus (first | omega | (simp <;> omega)))) | (with_reducible refine blD ?_) | (with_reducible refine blN ?_) | ((with_reducible refine blS ?_ ?_); (focus (first | omega | (simp <;> omega)))) | ((with_reducible refine blT (by assumption) ?_ ?_); (focus (first | omega | (simp <;> omega))))))
    · have hR : pwR d e a b k = ((0, 0, 0), false) := by rw [pwR, decide_eq_false ck, Bool.and_false]; rfl
      have hw : Hid (∀ w1, Calls Try.prog 42 #[.int .i64 d, .agg #[.int .i64 e, .int .i64 a, .int .i64 b]] w1 fun en w' => en = .returned (.bool true) ∧ Below w1.heap.size w1 w') := fun w1 => by rw [← c]; exact isWhole_any d e a b w1 hd
      rw [hR]
      clear hR c
      by_cases c0 : k < 0
      · go_enter Try.func23, Try.ntmps23
        go_wp2_with (go_at_call 42; refine (hw.out _).mono ?_; rintro e w' ⟨rfl, hB⟩; obtain ⟨hC, hF⟩ := bcell hB; have hS := hB.size; (try simp at hS); (try have hSl := Nat.lt_of_succ_le hS); (try have hS0 : w.heap.size < w'.heap.size := by omega); (try have hS1 : w.heap.size + 1 < w'.heap.size := by omega); (try have hS2 : w.heap.size + 1 + 1 < w'.heap.size := by omega); (try have hS3 : w.heap.size + 1 + 1 + 1 < w'.heap.size := by omega))
        (refine bodyPost_ret (v := .tuple #[.agg #[.int .i64 0, .int .i64 0, .int .i64 0], .bool false]) ?_ rfl ⟨?_, ?_⟩; (focus (go_light; first | (simp [results, Try.results23, go_sem, *]; done) | (simp (disch := first | omega | (simp <;> omega) | (refine isSome_of ?_ ?_; (focus ((repeat (first | ((with_reducible refine (cell_alloc_old _ _ _ _ ?_).trans ?_); (focus (first | omega | (simp <;> omega)))) | ((with_reducible refine (bG (by assumption) ?_).trans ?_); (focus (first | omega | (simp <;> omega)))))); exact rfl)); simp [go_sem]) | fail) [results, Try.results23, go_sem, *]; done))); (focus (rfl)); repeat (first | with_reducible exact Below.refl _ _ | with_reducible assumption | ((with_reducible refine blA ?_ ?_); (focus (first | omega | (simp <;> omega)))) | (with_reducible refine blD ?_) | (with_reducible refine blN ?_) | ((with_reducible refine blS ?_ ?_); (focus (first | omega | (simp <;> omega)))) | ((with_reducible refine blT (by assumption) ?_ ?_); (focus (first | omega | (simp <;> omega))))))
      have c20 : 20 < k := by omega
      · go_enter Try.func23, Try.ntmps23
        go_wp2_with (go_at_call 42; refine (hw.out _).mono ?_; rintro e w' ⟨rfl, hB⟩; obtain ⟨hC, hF⟩ := bcell hB; have hS := hB.size; (try simp at hS); (try have hSl := Nat.lt_of_succ_le hS); (try have hS0 : w.heap.size < w'.heap.size := by omega); (try have hS1 : w.heap.size + 1 < w'.heap.size := by omega); (try have hS2 : w.heap.size + 1 + 1 < w'.heap.size := by omega); (try have hS3 : w.heap.size + 1 + 1 + 1 < w'.heap.size := by omega))
        (refine bodyPost_ret (v := .tuple #[.agg #[.int .i64 0, .int .i64 0, .int .i64 0], .bool false]) ?_ rfl ⟨?_, ?_⟩; (focus (go_light; first | (simp [results, Try.results23, go_sem, *]; done) | (simp (disch := first | omega | (simp <;> omega) | (refine isSome_of ?_ ?_; (focus ((repeat (first | ((with_reducible refine (cell_alloc_old _ _ _ _ ?_).trans ?_); (focus (first | omega | (simp <;> omega)))) | ((with_reducible refine (bG (by assumption) ?_).trans ?_); (focus (first | omega | (simp <;> omega)))))); exact rfl)); simp [go_sem]) | fail) [results, Try.results23, go_sem, *]; done))); (focus (rfl)); repeat (first | with_reducible exact Below.refl _ _ | with_reducible assumption | ((with_reducible refine blA ?_ ?_); (focus (first | omega | (simp <;> omega)))) | (with_reducible refine blD ?_) | (with_reducible refine blN ?_) | ((with_reducible refine blS ?_ ?_); (focus (first | omega | (simp <;> omega)))) | ((with_reducible refine blT (by assumption) ?_ ?_); (focus (first | omega | (simp <;> omega))))))
  · have c' : (fnB d && idB d e a b) = false := by simpa using c
    have hR : pwR d e a b k = ((0, 0, 0), false) := by rw [pwR, c', Bool.false_and]; rfl
    have hw : Hid (∀ w1, Calls Try.prog 42 #[.int .i64 d, .agg #[.int .i64 e, .int .i64 a, .int .i64 b]] w1 fun en w' => en = .returned (.bool false) ∧ Below w1.heap.size w1 w') := fun w1 => by rw [← c']; exact isWhole_any d e a b w1 hd
    rw [hR]
    clear hR c c'
    go_enter Try.func23, Try.ntmps23
    go_wp2_with (go_at_call 42; refine (hw.out _).mono ?_; rintro e w' ⟨rfl, hB⟩; obtain ⟨hC, hF⟩ := bcell hB; have hS := hB.size; (try simp at hS); (try have hSl := Nat.lt_of_succ_le hS); (try have hS0 : w.heap.size < w'.heap.size := by omega); (try have hS1 : w.heap.size + 1 < w'.heap.size := by omega); (try have hS2 : w.heap.size + 1 + 1 < w'.heap.size := by omega); (try have hS3 : w.heap.size + 1 + 1 + 1 < w'.heap.size := by omega))
    (refine bodyPost_ret (v := .tuple #[.agg #[.int .i64 0, .int .i64 0, .int .i64 0], .bool false]) ?_ rfl ⟨?_, ?_⟩; (focus (go_light; first | (simp [results, Try.results23, go_sem, *]; done) | (simp (disch := first | omega | (simp <;> omega) | (refine isSome_of ?_ ?_; (focus ((repeat (first | ((with_reducible refine (cell_alloc_old _ _ _ _ ?_).trans ?_); (focus (first | omega | (simp <;> omega)))) | ((with_reducible refine (bG (by assumption) ?_).trans ?_); (focus (first | omega | (simp <;> omega)))))); exact rfl)); simp [go_sem]) | fail) [results, Try.results23, go_sem, *]; done))); (focus (rfl)); repeat (first | with_reducible exact Below.refl _ _ | with_reducible assumption | ((with_reducible refine blA ?_ ?_); (focus (first | omega | (simp <;> omega)))) | (with_reducible refine blD ?_) | (with_reducible refine blN ?_) | ((with_reducible refine blS ?_ ?_); (focus (first | omega | (simp <;> omega)))) | ((with_reducible refine blT (by assumption) ?_ ?_); (focus (first | omega | (simp <;> omega))))))
set_option maxRecDepth 100000 in
set_option maxHeartbeats 2000000 in
theorem specIdealPower_any (d e a b k : Int) (w : World) (hd : I64 d) (hk : I64 k) :
    Calls Try.prog 22 #[.int .i64 d, .agg #[.int .i64 e, .int .i64 a, .int .i64 b], .int .i64 k] w fun en w' => en = .returned (.tuple #[.agg #[.int .i64 ((pwR d e a b k).1.1), .int .i64 ((pwR d e a b k).1.2.1), .int .i64 ((pwR d e a b k).1.2.2)], .bool (pwR d e a b k).2]) ∧ Below w.heap.size w w' := by
  obtain ⟨k1, k2⟩ := hk
  by_cases c : (fnB d && idB d e a b) = true
  · by_cases ck : 0 ≤ k ∧ k ≤ 20
    · obtain ⟨n, rfl⟩ : ∃ n : Nat, k = (n : Int) := ⟨k.toNat, by omega⟩
      have hn : n ≤ 20 := by omega
      have hfn : fnB d = true := by simp only [Bool.and_eq_true] at c; exact c.1
      have hib : idB d e a b = true := by simp only [Bool.and_eq_true] at c; exact c.2
      have HIB := Lib.hid hib
      have hU := Lib.hid (idB_unit hfn)
      obtain ⟨R, hR⟩ : ∃ R, R = pwR d e a b (n : Int) := ⟨_, rfl⟩
      have HR : Hid (pwF d e a b n (1, 1, d % 2) = R) := by
        show _ = _
        rw [hR, pwR, c, decide_eq_true ck, Bool.true_and, if_pos rfl, Int.toNat_natCast]
      have hw : Hid (∀ w1, Calls Try.prog 40 #[.int .i64 d, .agg #[.int .i64 e, .int .i64 a, .int .i64 b]] w1 fun en w' => en = .returned (.bool true) ∧ Below w1.heap.size w1 w') := fun w1 => by rw [← c]; exact piGood_any d e a b w1 hd
      rw [← hR]
      obtain ⟨⟨R1, R2, R3⟩, r⟩ := R
      clear hR c hfn hib
      have hin : inB (n : Int) 0 20 = true := by unfold inB; exact decide_eq_true ck
      have hl : Hid (∀ w1, Calls Try.prog 36 #[.int .i64 (n : Int), .int .i64 0, .int .i64 20] w1 fun en w' => en = .returned (.bool true) ∧ w1 = w') := fun w1 => by rw [← hin]; exact l1In_any _ _ _ w1
      clear hin
      go_enter Try.func22, Try.ntmps22
      go_wp2_with fail
      refine (hw.out _).mono ?_
      rintro e1 w1 ⟨rfl, hB1⟩
      obtain ⟨hC1, hF1⟩ := bcell hB1
      have hS1 := hB1.size
      (try simp at hS1)
      (try have hS1_w0 : w.heap.size < w1.heap.size := by omega)
      (try have hS1_w1 : w.heap.size + 1 < w1.heap.size := by omega)
      (try have hS1_w2 : w.heap.size + 1 + 1 < w1.heap.size := by omega)
      (try have hS1_w3 : w.heap.size + 1 + 1 + 1 < w1.heap.size := by omega)
      (try have hS1_w4 : w.heap.size + 1 + 1 + 1 + 1 < w1.heap.size := by omega)
      (try have hL1_w0 : w.heap.size ≤ w1.heap.size := by omega)
      (try have hL1_w1 : w.heap.size + 1 ≤ w1.heap.size := by omega)
      (try have hL1_w2 : w.heap.size + 1 + 1 ≤ w1.heap.size := by omega)
      (try have hL1_w3 : w.heap.size + 1 + 1 + 1 ≤ w1.heap.size := by omega)
      (try have hL1_w : w.heap.size ≤ w1.heap.size + 1 := by omega)
      (try have hM1_1 : w.heap.size < w1.heap.size + 1 := by omega)
      (try have hM1_2 : w.heap.size < w1.heap.size + 1 + 1 := by omega)
      (try have hM1_3 : w.heap.size < w1.heap.size + 1 + 1 + 1 := by omega)
      go_wp2_with (first | (go_at_call 36; refine (hl.out _).mono ?_; rintro e w' ⟨rfl, rfl⟩) | (go_at_call 44; refine (nuMod_any _ _ _ hd (by omega) (by omega)).mono ?_; rintro e w' ⟨rfl, rfl⟩))
      have hX0 : ∀ o, w1.cell? ⟨w.heap.size, o, none⟩ = (#[.int .i64 e, .int .i64 a, .int .i64 b] : Array Value)[o]? := by (intro o; (repeat (first | ((with_reducible refine (cell_alloc_old _ _ _ _ ?_).trans ?_); (focus (first | omega | (simp <;> omega)))) | ((with_reducible refine (bC (by assumption) ?_).trans ?_); (focus (first | omega | (simp <;> omega)))) | ((with_reducible refine (bG (by assumption) ?_).trans ?_); (focus (first | omega | (simp <;> omega)))))); simp [go_sem])
      have hR0 : ∀ o, w1.cell? ⟨w.heap.size + 1, o, none⟩ = (#[.int .i64 0, .int .i64 0, .int .i64 0] : Array Value)[o]? := by (intro o; (repeat (first | ((with_reducible refine (cell_alloc_old _ _ _ _ ?_).trans ?_); (focus (first | omega | (simp <;> omega)))) | ((with_reducible refine (bC (by assumption) ?_).trans ?_); (focus (first | omega | (simp <;> omega)))) | ((with_reducible refine (bG (by assumption) ?_).trans ?_); (focus (first | omega | (simp <;> omega)))))); simp [go_sem])
      have hF0 : ∀ o, w1.frozen? ⟨w.heap.size + 1, o, none⟩ = false := by (intro o; (repeat (first | ((with_reducible refine (frozen_alloc_old _ _ _ _ ?_).trans ?_); (focus (first | omega | (simp <;> omega)))) | ((with_reducible refine (fG (by assumption) ?_).trans ?_); (focus (first | omega | (simp <;> omega)))))); simp [go_sem])
      have hBw : Below w.heap.size w w1 := by
        repeat (first | with_reducible exact Below.refl _ _ | with_reducible assumption | ((with_reducible refine blA ?_ ?_); (focus (first | omega | (simp <;> omega)))) | (with_reducible refine blD ?_) | (with_reducible refine blN ?_) | ((with_reducible refine blS ?_ ?_); (focus (first | omega | (simp <;> omega)))) | ((with_reducible refine blT (by assumption) ?_ ?_); (focus (first | omega | (simp <;> omega)))))
      have hsz : w.heap.size + 1 < w1.heap.size := by omega
      go_loopw [2] (fun kv wr => ∃ m : Nat, ∃ x y z : Int, kv = .int .i64 (m : Int) ∧ m ≤ 20 ∧ Hid (idB d x y z = true) ∧ Hid (pwF d e a b m (x, y, z) = ((R1, R2, R3), r)) ∧ Hid (Pw w wr w1.heap.size e a b x y z)) (fun kv _ => (intOf kv).toNat)
      case atStart =>
        refine ⟨n, 1, 1, d % 2, rfl, hn, hU.out, HR.out, ?_⟩
        refine ⟨fun o => by simp [go_sem], fun o => by simp [go_sem], fun o => by rw [cell_alloc_old _ _ _ _ (by omega), hX0], fun o => by rw [cell_alloc_old _ _ _ _ (by omega), hR0], fun o => by rw [frozen_alloc_old _ _ _ _ (by omega), hF0], hsz, by simp, ?_⟩
        have hbs := hBw.size
        exact hBw.alloc (by omega) _
      case round =>
        obtain ⟨m, x, y, z, rfl, hm, hid, hst, hpw⟩ := hrel
        have gV := hpw.out.hV
        have gVf := hpw.out.hVf
        have gX := hpw.out.hX
        have gR := hpw.out.hR
        have gRf := hpw.out.hRf
        have gs := hpw.out.sz
        have gb := hpw.out.below
        have gbs := gb.size
        match m, hm, hst with
        | 0, _, hst =>
          have hst' := hst.out
          rw [pwF] at hst'
          simp only [Prod.mk.injEq] at hst'
          obtain ⟨⟨rfl, rfl, rfl⟩, rfl⟩ := hst'
          go_wp2_with fail
          (refine bodyPost_ret (v := .tuple #[.agg #[.int .i64 x, .int .i64 y, .int .i64 z], .bool true]) ?_ rfl ⟨?_, ?_⟩; (focus (go_light; first | (simp [results, Try.results22, go_sem, *]; done) | (simp (disch := first | omega | (simp <;> omega) | (refine isSome_of ?_ ?_; (focus ((repeat (first | ((with_reducible refine (cell_alloc_old _ _ _ _ ?_).trans ?_); (focus (first | omega | (simp <;> omega)))) | ((with_reducible refine (bG (by assumption) ?_).trans ?_); (focus (first | omega | (simp <;> omega)))))); exact rfl)); simp [go_sem]) | fail) [results, Try.results22, go_sem, *]; done))); (focus (rfl)); repeat (first | with_reducible exact Below.refl _ _ | with_reducible assumption | ((with_reducible refine blA ?_ ?_); (focus (first | omega | (simp <;> omega)))) | (with_reducible refine blD ?_) | (with_reducible refine blN ?_) | ((with_reducible refine blS ?_ ?_); (focus (first | omega | (simp <;> omega)))) | ((with_reducible refine blT (by assumption) ?_ ?_); (focus (first | omega | (simp <;> omega))))))
        | m + 1, hm, hst =>
          obtain ⟨wo, rfl⟩ : ∃ wo : World, wo = wr := ⟨_, rfl⟩
          have hpos : 0 < ((m + 1 : Nat) : Int) := by omega
          obtain ⟨X, Y, Z, hT, hst'⟩ : ∃ X Y Z : Int, Hid (∀ w1, Calls Try.prog 45 #[.int .i64 d, .agg #[.int .i64 x, .int .i64 y, .int .i64 z], .agg #[.int .i64 e, .int .i64 a, .int .i64 b]] w1 fun en w' => en = .returned (.agg #[.int .i64 X, .int .i64 Y, .int .i64 Z]) ∧ Below w1.heap.size w1 w') ∧ (if idB d X Y Z = true then pwF d e a b m (X, Y, Z) else ((0, 0, 0), false)) = ((R1, R2, R3), r) := ⟨_, _, _, fun w1 => idProduct_any d x y z e a b w1 hid.out HIB.out, hst.out⟩
          cases cq : idB d X Y Z with
          | true =>
            rw [cq] at hst'
            have hG : Hid (∀ w1, Calls Try.prog 46 #[.int .i64 d, .agg #[.int .i64 X, .int .i64 Y, .int .i64 Z]] w1 fun en w' => en = .returned (.bool true) ∧ Below w1.heap.size w1 w') := fun w1 => by rw [← cq]; exact idGood_any d X Y Z w1 hd
            have CQ := Lib.hid cq
            rw [if_pos rfl] at hst'
            have HST := Lib.hid hst'
            clear hst' cq hst
            go_wp2_with fail
            refine (hT.out _).mono ?_
            rintro ea wa ⟨rfl, hBa⟩
            have hPa := hpw.out.later hBa
            have aV := hPa.hV
            have aVf := hPa.hVf
            have asz := hPa.sz
            go_wp2_with fail
            have hPs := Lib.hid (hPa.set X Y Z)
            clear gV gVf gX gR gRf gb aV aVf hPa
            have sV := hPs.out.hV
            refine (hG.out _).mono ?_
            rintro eb wb ⟨rfl, hBb⟩
            have hPb := Lib.hid (hPs.out.later hBb)
            clear sV hPs
            have bR := hPb.out.hR
            have bRf := hPb.out.hRf
            have bb := hPb.out.below
            have bbs := bb.size
            have bsz := hPb.out.sz
            have blt := hPb.out.ltV
            go_wp2_with fail
            go_roundw
            case rel =>
              go_light
              exact ⟨m, X, Y, Z, by go_num, by omega, CQ.out, HST.out, hPb.out⟩
            case measure => (simp [intOf]; try omega)
          | false =>
            rw [cq] at hst'
            have hG : Hid (∀ w1, Calls Try.prog 46 #[.int .i64 d, .agg #[.int .i64 X, .int .i64 Y, .int .i64 Z]] w1 fun en w' => en = .returned (.bool false) ∧ Below w1.heap.size w1 w') := fun w1 => by rw [← cq]; exact idGood_any d X Y Z w1 hd
            have CQ := Lib.hid cq
            rw [if_neg (by simp)] at hst'
            simp only [Prod.mk.injEq] at hst'
            obtain ⟨⟨rfl, rfl, rfl⟩, rfl⟩ := hst'
            clear cq hst
            go_wp2_with fail
            refine (hT.out _).mono ?_
            rintro ea wa ⟨rfl, hBa⟩
            have hPa := hpw.out.later hBa
            have aV := hPa.hV
            have aVf := hPa.hVf
            have asz := hPa.sz
            go_wp2_with fail
            have hPs := Lib.hid (hPa.set X Y Z)
            clear gV gVf gX gR gRf gb aV aVf hPa
            have sV := hPs.out.hV
            refine (hG.out _).mono ?_
            rintro eb wb ⟨rfl, hBb⟩
            have hPb := Lib.hid (hPs.out.later hBb)
            clear sV hPs
            have bR := hPb.out.hR
            have bRf := hPb.out.hRf
            have bb := hPb.out.below
            have bbs := bb.size
            have bsz := hPb.out.sz
            have blt := hPb.out.ltV
            go_wp2_with fail
            (refine bodyPost_ret (v := .tuple #[.agg #[.int .i64 0, .int .i64 0, .int .i64 0], .bool false]) ?_ rfl ⟨?_, ?_⟩; (focus (go_light; first | (simp [results, Try.results22, go_sem, *]; done) | (simp (disch := first | omega | (simp <;> omega) | (refine isSome_of ?_ ?_; (focus ((repeat (first | ((with_reducible refine (cell_alloc_old _ _ _ _ ?_).trans ?_); (focus (first | omega | (simp <;> omega)))) | ((with_reducible refine (bG (by assumption) ?_).trans ?_); (focus (first | omega | (simp <;> omega)))))); exact rfl)); simp [go_sem]) | fail) [results, Try.results22, go_sem, *]; done))); (focus (rfl)); repeat (first | with_reducible exact Below.refl _ _ | with_reducible assumption | ((with_reducible refine blA ?_ ?_); (focus (first | omega | (simp <;> omega)))) | (with_reducible refine blD ?_) | (with_reducible refine blN ?_) | ((with_reducible refine blS ?_ ?_); (focus (first | omega | (simp <;> omega)))) | ((with_reducible refine blT (by assumption) ?_ ?_); (focus (first | omega | (simp <;> omega))))))
    · have hR : pwR d e a b k = ((0, 0, 0), false) := by rw [pwR, decide_eq_false ck, Bool.and_false]; rfl
      have hw : Hid (∀ w1, Calls Try.prog 40 #[.int .i64 d, .agg #[.int .i64 e, .int .i64 a, .int .i64 b]] w1 fun en w' => en = .returned (.bool true) ∧ Below w1.heap.size w1 w') := fun w1 => by rw [← c]; exact piGood_any d e a b w1 hd
      rw [hR]
      clear hR c
      have hin : inB k 0 20 = false := by unfold inB; exact decide_eq_false ck
      have hl : Hid (∀ w1, Calls Try.prog 36 #[.int .i64 k, .int .i64 0, .int .i64 20] w1 fun en w' => en = .returned (.bool false) ∧ w1 = w') := fun w1 => by rw [← hin]; exact l1In_any _ _ _ w1
      clear hin ck
      go_enter Try.func22, Try.ntmps22
      go_wp2_with (first | (go_at_call 40; refine (hw.out _).mono ?_; rintro e w' ⟨rfl, hB⟩; obtain ⟨hC, hF⟩ := bcell hB; have hS := hB.size; (try simp at hS); (try have hSl := Nat.lt_of_succ_le hS); (try have hS0 : w.heap.size < w'.heap.size := by omega); (try have hS1 : w.heap.size + 1 < w'.heap.size := by omega); (try have hS2 : w.heap.size + 1 + 1 < w'.heap.size := by omega); (try have hS3 : w.heap.size + 1 + 1 + 1 < w'.heap.size := by omega)) | (go_at_call 36; refine (hl.out _).mono ?_; rintro e w' ⟨rfl, rfl⟩))
      (refine bodyPost_ret (v := .tuple #[.agg #[.int .i64 0, .int .i64 0, .int .i64 0], .bool false]) ?_ rfl ⟨?_, ?_⟩; (focus (go_light; first | (simp [results, Try.results22, go_sem, *]; done) | (simp (disch := first | omega | (simp <;> omega) | (refine isSome_of ?_ ?_; (focus ((repeat (first | ((with_reducible refine (cell_alloc_old _ _ _ _ ?_).trans ?_); (focus (first | omega | (simp <;> omega)))) | ((with_reducible refine (bG (by assumption) ?_).trans ?_); (focus (first | omega | (simp <;> omega)))))); exact rfl)); simp [go_sem]) | fail) [results, Try.results22, go_sem, *]; done))); (focus (rfl)); repeat (first | with_reducible exact Below.refl _ _ | with_reducible assumption | ((with_reducible refine blA ?_ ?_); (focus (first | omega | (simp <;> omega)))) | (with_reducible refine blD ?_) | (with_reducible refine blN ?_) | ((with_reducible refine blS ?_ ?_); (focus (first | omega | (simp <;> omega)))) | ((with_reducible refine blT (by assumption) ?_ ?_); (focus (first | omega | (simp <;> omega))))))
  · have c' : (fnB d && idB d e a b) = false := by simpa using c
    have hR : pwR d e a b k = ((0, 0, 0), false) := by rw [pwR, c', Bool.false_and]; rfl
    have hw : Hid (∀ w1, Calls Try.prog 40 #[.int .i64 d, .agg #[.int .i64 e, .int .i64 a, .int .i64 b]] w1 fun en w' => en = .returned (.bool false) ∧ Below w1.heap.size w1 w') := fun w1 => by rw [← c']; exact piGood_any d e a b w1 hd
    rw [hR]
    clear hR c c'
    go_enter Try.func22, Try.ntmps22
    go_wp2_with (go_at_call 40; refine (hw.out _).mono ?_; rintro e w' ⟨rfl, hB⟩; obtain ⟨hC, hF⟩ := bcell hB; have hS := hB.size; (try simp at hS); (try have hSl := Nat.lt_of_succ_le hS); (try have hS0 : w.heap.size < w'.heap.size := by omega); (try have hS1 : w.heap.size + 1 < w'.heap.size := by omega); (try have hS2 : w.heap.size + 1 + 1 < w'.heap.size := by omega); (try have hS3 : w.heap.size + 1 + 1 + 1 < w'.heap.size := by omega))
    (refine bodyPost_ret (v := .tuple #[.agg #[.int .i64 0, .int .i64 0, .int .i64 0], .bool false]) ?_ rfl ⟨?_, ?_⟩; (focus (go_light; first | (simp [results, Try.results22, go_sem, *]; done) | (simp (disch := first | omega | (simp <;> omega) | (refine isSome_of ?_ ?_; (focus ((repeat (first | ((with_reducible refine (cell_alloc_old _ _ _ _ ?_).trans ?_); (focus (first | omega | (simp <;> omega)))) | ((with_reducible refine (bG (by assumption) ?_).trans ?_); (focus (first | omega | (simp <;> omega)))))); exact rfl)); simp [go_sem]) | fail) [results, Try.results22, go_sem, *]; done))); (focus (rfl)); repeat (first | with_reducible exact Below.refl _ _ | with_reducible assumption | ((with_reducible refine blA ?_ ?_); (focus (first | omega | (simp <;> omega)))) | (with_reducible refine blD ?_) | (with_reducible refine blN ?_) | ((with_reducible refine blS ?_ ?_); (focus (first | omega | (simp <;> omega)))) | ((with_reducible refine blT (by assumption) ?_ ?_); (focus (first | omega | (simp <;> omega))))))
theorem eqIdeal_eq (e a b : Int) (w : World) :
    Calls Try.prog 24 #[.agg #[.int .i64 e, .int .i64 a, .int .i64 b], .agg #[.int .i64 e, .int .i64 a, .int .i64 b]] w fun en w' => en = .returned (.bool true) ∧ Below w.heap.size w w' := by
  go_enter Try.func24, Try.ntmps24
  go_wp2
  go_ret
  refine ⟨rfl, ?_⟩
  repeat (first | with_reducible exact Below.refl _ _ | with_reducible assumption | ((with_reducible refine blA ?_ ?_); (focus (first | omega | (simp <;> omega)))) | (with_reducible refine blD ?_) | (with_reducible refine blN ?_) | ((with_reducible refine blS ?_ ?_); (focus (first | omega | (simp <;> omega)))) | ((with_reducible refine blT (by assumption) ?_ ?_); (focus (first | omega | (simp <;> omega)))))
theorem law_idealPower (d e a b k : Int) (w : World) (hd : I64 d) (_ : I64 e) (_ : I64 a) (_ : I64 b) (hk : I64 k) :
    Calls Try.prog 6 #[.int .i64 d, .agg #[.int .i64 e, .int .i64 a, .int .i64 b], .int .i64 k] w fun en w' => en = .returned (.bool true) ∧ Below w.heap.size w w' := by
  go_enter Try.func6, Try.ntmps6
  go_wp2_with fail
  refine (toIdeal_any _ _ _ _).mono ?_
  rintro e1 w1 ⟨rfl, hB1⟩
  obtain ⟨hC1, hF1⟩ := bcell hB1
  have hS1 := hB1.size
  (try simp at hS1)
  (try have hS1_w0 : w.heap.size < w1.heap.size := by omega)
  (try have hS1_w1 : w.heap.size + 1 < w1.heap.size := by omega)
  (try have hS1_w2 : w.heap.size + 1 + 1 < w1.heap.size := by omega)
  (try have hS1_w3 : w.heap.size + 1 + 1 + 1 < w1.heap.size := by omega)
  (try have hS1_w4 : w.heap.size + 1 + 1 + 1 + 1 < w1.heap.size := by omega)
  (try have hL1_w0 : w.heap.size ≤ w1.heap.size := by omega)
  (try have hL1_w1 : w.heap.size + 1 ≤ w1.heap.size := by omega)
  (try have hL1_w2 : w.heap.size + 1 + 1 ≤ w1.heap.size := by omega)
  (try have hL1_w3 : w.heap.size + 1 + 1 + 1 ≤ w1.heap.size := by omega)
  (try have hL1_w : w.heap.size ≤ w1.heap.size + 1 := by omega)
  (try have hM1_1 : w.heap.size < w1.heap.size + 1 := by omega)
  (try have hM1_2 : w.heap.size < w1.heap.size + 1 + 1 := by omega)
  (try have hM1_3 : w.heap.size < w1.heap.size + 1 + 1 + 1 := by omega)
  go_wp2_with fail
  refine (specIdealPower_any _ _ _ _ _ _ hd hk).mono ?_
  rintro e2 w2 ⟨rfl, hB2⟩
  obtain ⟨hC2, hF2⟩ := bcell hB2
  have hS2 := hB2.size
  (try simp at hS2)
  (try have hS2_w0 : w.heap.size < w2.heap.size := by omega)
  (try have hS2_w1 : w.heap.size + 1 < w2.heap.size := by omega)
  (try have hS2_w2 : w.heap.size + 1 + 1 < w2.heap.size := by omega)
  (try have hS2_w3 : w.heap.size + 1 + 1 + 1 < w2.heap.size := by omega)
  (try have hS2_w4 : w.heap.size + 1 + 1 + 1 + 1 < w2.heap.size := by omega)
  (try have hL2_w0 : w.heap.size ≤ w2.heap.size := by omega)
  (try have hL2_w1 : w.heap.size + 1 ≤ w2.heap.size := by omega)
  (try have hL2_w2 : w.heap.size + 1 + 1 ≤ w2.heap.size := by omega)
  (try have hL2_w3 : w.heap.size + 1 + 1 + 1 ≤ w2.heap.size := by omega)
  (try have hL2_w : w.heap.size ≤ w2.heap.size + 1 := by omega)
  (try have hM2_1 : w.heap.size < w2.heap.size + 1 := by omega)
  (try have hM2_2 : w.heap.size < w2.heap.size + 1 + 1 := by omega)
  (try have hM2_3 : w.heap.size < w2.heap.size + 1 + 1 + 1 := by omega)
  (try have hN2_1_00 : w1.heap.size < w2.heap.size := by omega)
  (try have hN2_1_01 : w1.heap.size < w2.heap.size + 1 := by omega)
  (try have hN2_1_02 : w1.heap.size < w2.heap.size + 1 + 1 := by omega)
  (try have hN2_1_10 : w1.heap.size + 1 < w2.heap.size := by omega)
  (try have hN2_1_11 : w1.heap.size + 1 < w2.heap.size + 1 := by omega)
  (try have hN2_1_12 : w1.heap.size + 1 < w2.heap.size + 1 + 1 := by omega)
  (try have hN2_1_20 : w1.heap.size + 1 + 1 < w2.heap.size := by omega)
  (try have hN2_1_21 : w1.heap.size + 1 + 1 < w2.heap.size + 1 := by omega)
  (try have hN2_1_22 : w1.heap.size + 1 + 1 < w2.heap.size + 1 + 1 := by omega)
  (try have hL2_1 : w1.heap.size ≤ w2.heap.size := by omega)
  (try have hS2_1 : w1.heap.size < w2.heap.size := by omega)
  (try have hS2_1' : w1.heap.size + 1 < w2.heap.size := by omega)
  go_wp2_with fail
  refine (toIdeal_any _ _ _ _).mono ?_
  rintro e3 w3 ⟨rfl, hB3⟩
  obtain ⟨hC3, hF3⟩ := bcell hB3
  have hS3 := hB3.size
  (try simp at hS3)
  (try have hS3_w0 : w.heap.size < w3.heap.size := by omega)
  (try have hS3_w1 : w.heap.size + 1 < w3.heap.size := by omega)
  (try have hS3_w2 : w.heap.size + 1 + 1 < w3.heap.size := by omega)
  (try have hS3_w3 : w.heap.size + 1 + 1 + 1 < w3.heap.size := by omega)
  (try have hS3_w4 : w.heap.size + 1 + 1 + 1 + 1 < w3.heap.size := by omega)
  (try have hL3_w0 : w.heap.size ≤ w3.heap.size := by omega)
  (try have hL3_w1 : w.heap.size + 1 ≤ w3.heap.size := by omega)
  (try have hL3_w2 : w.heap.size + 1 + 1 ≤ w3.heap.size := by omega)
  (try have hL3_w3 : w.heap.size + 1 + 1 + 1 ≤ w3.heap.size := by omega)
  (try have hL3_w : w.heap.size ≤ w3.heap.size + 1 := by omega)
  (try have hM3_1 : w.heap.size < w3.heap.size + 1 := by omega)
  (try have hM3_2 : w.heap.size < w3.heap.size + 1 + 1 := by omega)
  (try have hM3_3 : w.heap.size < w3.heap.size + 1 + 1 + 1 := by omega)
  (try have hN3_1_00 : w1.heap.size < w3.heap.size := by omega)
  (try have hN3_1_01 : w1.heap.size < w3.heap.size + 1 := by omega)
  (try have hN3_1_02 : w1.heap.size < w3.heap.size + 1 + 1 := by omega)
  (try have hN3_1_10 : w1.heap.size + 1 < w3.heap.size := by omega)
  (try have hN3_1_11 : w1.heap.size + 1 < w3.heap.size + 1 := by omega)
  (try have hN3_1_12 : w1.heap.size + 1 < w3.heap.size + 1 + 1 := by omega)
  (try have hN3_1_20 : w1.heap.size + 1 + 1 < w3.heap.size := by omega)
  (try have hN3_1_21 : w1.heap.size + 1 + 1 < w3.heap.size + 1 := by omega)
  (try have hN3_1_22 : w1.heap.size + 1 + 1 < w3.heap.size + 1 + 1 := by omega)
  (try have hN3_2_00 : w2.heap.size < w3.heap.size := by omega)
  (try have hN3_2_01 : w2.heap.size < w3.heap.size + 1 := by omega)
  (try have hN3_2_02 : w2.heap.size < w3.heap.size + 1 + 1 := by omega)
  (try have hN3_2_10 : w2.heap.size + 1 < w3.heap.size := by omega)
  (try have hN3_2_11 : w2.heap.size + 1 < w3.heap.size + 1 := by omega)
  (try have hN3_2_12 : w2.heap.size + 1 < w3.heap.size + 1 + 1 := by omega)
  (try have hN3_2_20 : w2.heap.size + 1 + 1 < w3.heap.size := by omega)
  (try have hN3_2_21 : w2.heap.size + 1 + 1 < w3.heap.size + 1 := by omega)
  (try have hN3_2_22 : w2.heap.size + 1 + 1 < w3.heap.size + 1 + 1 := by omega)
  (try have hL3_1 : w1.heap.size ≤ w3.heap.size := by omega)
  (try have hL3_2 : w2.heap.size ≤ w3.heap.size := by omega)
  (try have hS3_1 : w1.heap.size < w3.heap.size := by omega)
  (try have hS3_1' : w1.heap.size + 1 < w3.heap.size := by omega)
  (try have hS3_2 : w2.heap.size < w3.heap.size := by omega)
  (try have hS3_2' : w2.heap.size + 1 < w3.heap.size := by omega)
  go_wp2_with fail
  refine (implIdealPower_any _ _ _ _ _ _ hd hk).mono ?_
  rintro e4 w4 ⟨rfl, hB4⟩
  obtain ⟨hC4, hF4⟩ := bcell hB4
  have hS4 := hB4.size
  (try simp at hS4)
  (try have hS4_w0 : w.heap.size < w4.heap.size := by omega)
  (try have hS4_w1 : w.heap.size + 1 < w4.heap.size := by omega)
  (try have hS4_w2 : w.heap.size + 1 + 1 < w4.heap.size := by omega)
  (try have hS4_w3 : w.heap.size + 1 + 1 + 1 < w4.heap.size := by omega)
  (try have hS4_w4 : w.heap.size + 1 + 1 + 1 + 1 < w4.heap.size := by omega)
  (try have hL4_w0 : w.heap.size ≤ w4.heap.size := by omega)
  (try have hL4_w1 : w.heap.size + 1 ≤ w4.heap.size := by omega)
  (try have hL4_w2 : w.heap.size + 1 + 1 ≤ w4.heap.size := by omega)
  (try have hL4_w3 : w.heap.size + 1 + 1 + 1 ≤ w4.heap.size := by omega)
  (try have hL4_w : w.heap.size ≤ w4.heap.size + 1 := by omega)
  (try have hM4_1 : w.heap.size < w4.heap.size + 1 := by omega)
  (try have hM4_2 : w.heap.size < w4.heap.size + 1 + 1 := by omega)
  (try have hM4_3 : w.heap.size < w4.heap.size + 1 + 1 + 1 := by omega)
  (try have hN4_1_00 : w1.heap.size < w4.heap.size := by omega)
  (try have hN4_1_01 : w1.heap.size < w4.heap.size + 1 := by omega)
  (try have hN4_1_02 : w1.heap.size < w4.heap.size + 1 + 1 := by omega)
  (try have hN4_1_10 : w1.heap.size + 1 < w4.heap.size := by omega)
  (try have hN4_1_11 : w1.heap.size + 1 < w4.heap.size + 1 := by omega)
  (try have hN4_1_12 : w1.heap.size + 1 < w4.heap.size + 1 + 1 := by omega)
  (try have hN4_1_20 : w1.heap.size + 1 + 1 < w4.heap.size := by omega)
  (try have hN4_1_21 : w1.heap.size + 1 + 1 < w4.heap.size + 1 := by omega)
  (try have hN4_1_22 : w1.heap.size + 1 + 1 < w4.heap.size + 1 + 1 := by omega)
  (try have hN4_2_00 : w2.heap.size < w4.heap.size := by omega)
  (try have hN4_2_01 : w2.heap.size < w4.heap.size + 1 := by omega)
  (try have hN4_2_02 : w2.heap.size < w4.heap.size + 1 + 1 := by omega)
  (try have hN4_2_10 : w2.heap.size + 1 < w4.heap.size := by omega)
  (try have hN4_2_11 : w2.heap.size + 1 < w4.heap.size + 1 := by omega)
  (try have hN4_2_12 : w2.heap.size + 1 < w4.heap.size + 1 + 1 := by omega)
  (try have hN4_2_20 : w2.heap.size + 1 + 1 < w4.heap.size := by omega)
  (try have hN4_2_21 : w2.heap.size + 1 + 1 < w4.heap.size + 1 := by omega)
  (try have hN4_2_22 : w2.heap.size + 1 + 1 < w4.heap.size + 1 + 1 := by omega)
  (try have hN4_3_00 : w3.heap.size < w4.heap.size := by omega)
  (try have hN4_3_01 : w3.heap.size < w4.heap.size + 1 := by omega)
  (try have hN4_3_02 : w3.heap.size < w4.heap.size + 1 + 1 := by omega)
  (try have hN4_3_10 : w3.heap.size + 1 < w4.heap.size := by omega)
  (try have hN4_3_11 : w3.heap.size + 1 < w4.heap.size + 1 := by omega)
  (try have hN4_3_12 : w3.heap.size + 1 < w4.heap.size + 1 + 1 := by omega)
  (try have hN4_3_20 : w3.heap.size + 1 + 1 < w4.heap.size := by omega)
  (try have hN4_3_21 : w3.heap.size + 1 + 1 < w4.heap.size + 1 := by omega)
  (try have hN4_3_22 : w3.heap.size + 1 + 1 < w4.heap.size + 1 + 1 := by omega)
  (try have hL4_1 : w1.heap.size ≤ w4.heap.size := by omega)
  (try have hL4_2 : w2.heap.size ≤ w4.heap.size := by omega)
  (try have hL4_3 : w3.heap.size ≤ w4.heap.size := by omega)
  (try have hS4_1 : w1.heap.size < w4.heap.size := by omega)
  (try have hS4_1' : w1.heap.size + 1 < w4.heap.size := by omega)
  (try have hS4_2 : w2.heap.size < w4.heap.size := by omega)
  (try have hS4_2' : w2.heap.size + 1 < w4.heap.size := by omega)
  (try have hS4_3 : w3.heap.size < w4.heap.size := by omega)
  (try have hS4_3' : w3.heap.size + 1 < w4.heap.size := by omega)
  go_wp2_with fail
  refine (eqIdeal_eq _ _ _ _).mono ?_
  rintro e5 w5 ⟨rfl, hB5⟩
  obtain ⟨hC5, hF5⟩ := bcell hB5
  have hS5 := hB5.size
  (try simp at hS5)
  (try have hS5_w0 : w.heap.size < w5.heap.size := by omega)
  (try have hS5_w1 : w.heap.size + 1 < w5.heap.size := by omega)
  (try have hS5_w2 : w.heap.size + 1 + 1 < w5.heap.size := by omega)
  (try have hS5_w3 : w.heap.size + 1 + 1 + 1 < w5.heap.size := by omega)
  (try have hS5_w4 : w.heap.size + 1 + 1 + 1 + 1 < w5.heap.size := by omega)
  (try have hL5_w0 : w.heap.size ≤ w5.heap.size := by omega)
  (try have hL5_w1 : w.heap.size + 1 ≤ w5.heap.size := by omega)
  (try have hL5_w2 : w.heap.size + 1 + 1 ≤ w5.heap.size := by omega)
  (try have hL5_w3 : w.heap.size + 1 + 1 + 1 ≤ w5.heap.size := by omega)
  (try have hL5_w : w.heap.size ≤ w5.heap.size + 1 := by omega)
  (try have hM5_1 : w.heap.size < w5.heap.size + 1 := by omega)
  (try have hM5_2 : w.heap.size < w5.heap.size + 1 + 1 := by omega)
  (try have hM5_3 : w.heap.size < w5.heap.size + 1 + 1 + 1 := by omega)
  (try have hN5_2_00 : w2.heap.size < w5.heap.size := by omega)
  (try have hN5_2_01 : w2.heap.size < w5.heap.size + 1 := by omega)
  (try have hN5_2_02 : w2.heap.size < w5.heap.size + 1 + 1 := by omega)
  (try have hN5_2_10 : w2.heap.size + 1 < w5.heap.size := by omega)
  (try have hN5_2_11 : w2.heap.size + 1 < w5.heap.size + 1 := by omega)
  (try have hN5_2_12 : w2.heap.size + 1 < w5.heap.size + 1 + 1 := by omega)
  (try have hN5_2_20 : w2.heap.size + 1 + 1 < w5.heap.size := by omega)
  (try have hN5_2_21 : w2.heap.size + 1 + 1 < w5.heap.size + 1 := by omega)
  (try have hN5_2_22 : w2.heap.size + 1 + 1 < w5.heap.size + 1 + 1 := by omega)
  (try have hN5_3_00 : w3.heap.size < w5.heap.size := by omega)
  (try have hN5_3_01 : w3.heap.size < w5.heap.size + 1 := by omega)
  (try have hN5_3_02 : w3.heap.size < w5.heap.size + 1 + 1 := by omega)
  (try have hN5_3_10 : w3.heap.size + 1 < w5.heap.size := by omega)
  (try have hN5_3_11 : w3.heap.size + 1 < w5.heap.size + 1 := by omega)
  (try have hN5_3_12 : w3.heap.size + 1 < w5.heap.size + 1 + 1 := by omega)
  (try have hN5_3_20 : w3.heap.size + 1 + 1 < w5.heap.size := by omega)
  (try have hN5_3_21 : w3.heap.size + 1 + 1 < w5.heap.size + 1 := by omega)
  (try have hN5_3_22 : w3.heap.size + 1 + 1 < w5.heap.size + 1 + 1 := by omega)
  (try have hN5_4_00 : w4.heap.size < w5.heap.size := by omega)
  (try have hN5_4_01 : w4.heap.size < w5.heap.size + 1 := by omega)
  (try have hN5_4_02 : w4.heap.size < w5.heap.size + 1 + 1 := by omega)
  (try have hN5_4_10 : w4.heap.size + 1 < w5.heap.size := by omega)
  (try have hN5_4_11 : w4.heap.size + 1 < w5.heap.size + 1 := by omega)
  (try have hN5_4_12 : w4.heap.size + 1 < w5.heap.size + 1 + 1 := by omega)
  (try have hN5_4_20 : w4.heap.size + 1 + 1 < w5.heap.size := by omega)
  (try have hN5_4_21 : w4.heap.size + 1 + 1 < w5.heap.size + 1 := by omega)
  (try have hN5_4_22 : w4.heap.size + 1 + 1 < w5.heap.size + 1 + 1 := by omega)
  (try have hL5_1 : w1.heap.size ≤ w5.heap.size := by omega)
  (try have hL5_2 : w2.heap.size ≤ w5.heap.size := by omega)
  (try have hL5_3 : w3.heap.size ≤ w5.heap.size := by omega)
  (try have hL5_4 : w4.heap.size ≤ w5.heap.size := by omega)
  (try have hS5_1 : w1.heap.size < w5.heap.size := by omega)
  (try have hS5_1' : w1.heap.size + 1 < w5.heap.size := by omega)
  (try have hS5_2 : w2.heap.size < w5.heap.size := by omega)
  (try have hS5_2' : w2.heap.size + 1 < w5.heap.size := by omega)
  (try have hS5_3 : w3.heap.size < w5.heap.size := by omega)
  (try have hS5_3' : w3.heap.size + 1 < w5.heap.size := by omega)
  (try have hS5_4 : w4.heap.size < w5.heap.size := by omega)
  (try have hS5_4' : w4.heap.size + 1 < w5.heap.size := by omega)
  go_wp2
  (refine bodyPost_ret (v := .bool true) ?_ rfl ⟨?_, ?_⟩; (focus (go_light; first | (simp [results, Try.results6, go_sem, *]; done) | (simp (disch := first | omega | (simp <;> omega) | (refine isSome_of ?_ ?_; (focus ((repeat (first | ((with_reducible refine (cell_alloc_old _ _ _ _ ?_).trans ?_); (focus (first | omega | (simp <;> omega)))) | ((with_reducible refine (bG (by assumption) ?_).trans ?_); (focus (first | omega | (simp <;> omega)))))); exact rfl)); simp [go_sem]) | fail) [results, Try.results6, go_sem, *]; done))); (focus (rfl)); repeat (first | with_reducible exact Below.refl _ _ | with_reducible assumption | ((with_reducible refine blA ?_ ?_); (focus (first | omega | (simp <;> omega)))) | (with_reducible refine blD ?_) | (with_reducible refine blN ?_) | ((with_reducible refine blS ?_ ?_); (focus (first | omega | (simp <;> omega)))) | ((with_reducible refine blT (by assumption) ?_ ?_); (focus (first | omega | (simp <;> omega))))))
end Go.Proofs.Ytladcjoiaoaedaa
