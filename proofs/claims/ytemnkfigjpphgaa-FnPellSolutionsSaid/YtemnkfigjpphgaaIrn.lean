/-
  The reference's comparison of cycles, walked.
-/
import Derived.Test.YtemnkfigjpphgaaIrl
namespace Go.Proofs.Ytemnkfigjpphgaa
open Go.RowKit
attribute [local simp, local go_sem] past_cell past_frozen past_tape
theorem Rd.total {r d : Int} : ∀ (n : Nat) (f : Fm) (M : Mt), Gd r d f → cMs r f ≤ n → ∃ g N ok, Rd r f M g N ok := by
  intro n
  induction n with
  | zero =>
    intro f M h hn
    cases hc : cyB r f with
    | true => exact ⟨_, _, _, .stop hc⟩
    | false => unfold cMs at hn; rw [hc] at hn; simp at hn
  | succ n ih =>
    intro f M h hn
    cases hc : cyB r f with
    | true => exact ⟨_, _, _, .stop hc⟩
    | false =>
      by_cases hm : mle 1000000 (mm M (nmg r f))
      · have := cMs_less h.root hc
        obtain ⟨g, N, ok, hR⟩ := ih (nbg r f) (mm M (nmg r f)) h.next.1 (by omega)
        exact ⟨g, N, ok, .next hc hm hR⟩
      · exact ⟨_, _, _, .bad hc hm⟩
theorem RI.total (f : Fm) : ∃ g N ok, RI f g N ok := by
  cases h : indB f.1 f.2.1 f.2.2 with
  | true =>
    obtain ⟨g, N, ok, hR⟩ := Rd.total _ f mI (ind_gd h) (Nat.le_refl _)
    exact ⟨g, N, ok, .inl ⟨h, hR⟩⟩
  | false => exact ⟨_, _, _, .inr ⟨h, rfl, rfl, rfl⟩⟩
theorem sc_left {f f' : Fm} (h : indB f.1 f.2.1 f.2.2 = false) : SC f f' false false := by
  obtain ⟨y, N, p, h2⟩ := RI.total f'
  exact ⟨_, _, _, _, _, _, .inr ⟨h, rfl, rfl, rfl⟩, h2, by simp, fun _ => rfl, fun h => by cases h⟩
theorem sc_right {f f' : Fm} (h : indB f'.1 f'.2.1 f'.2.2 = false) : SC f f' false false := by
  obtain ⟨y, N, p, h2⟩ := RI.total f
  exact ⟨_, _, _, _, _, _, h2, .inr ⟨h, rfl, rfl, rfl⟩, by simp, fun _ => rfl, fun h => by cases h⟩
set_option maxRecDepth 100000 in
set_option maxHeartbeats 8000000 in
theorem specSameCycle_any (a b c a' b' c' : Int) (w : World) : Calls Try.prog 23 #[.agg #[.int .i64 a, .int .i64 b, .int .i64 c], .agg #[.int .i64 a', .int .i64 b', .int .i64 c']] w fun e w' => (∃ s ok : Bool, e = .returned (.tuple #[.bool s, .bool ok]) ∧ SC (a, b, c) (a', b', c') s ok) ∧ Below w.heap.size w w' := by
  have hgood : Hid (∀ w0, Calls Try.prog 73 #[.agg #[.int .i64 a, .int .i64 b, .int .i64 c]] w0 fun en w' => en = .returned (.bool (indB a b c)) ∧ Below w0.heap.size w0 w') := Lib.hid fun w0 => cyGood_any a b c w0
  have hgood' : Hid (∀ w0, Calls Try.prog 73 #[.agg #[.int .i64 a', .int .i64 b', .int .i64 c']] w0 fun en w' => en = .returned (.bool (indB a' b' c')) ∧ Below w0.heap.size w0 w') := Lib.hid fun w0 => cyGood_any a' b' c' w0
  cases hi : indB a b c with
  | false =>
    have HI := Lib.hid hi
    rw [hi] at hgood
    clear hi
    go_enter Try.func23, Try.ntmps23
    go_wp2_with fail
    refine (hgood.out _).mono ?_
    rintro e1 w1 ⟨rfl, hB1⟩
    obtain ⟨hC1, hF1⟩ := bcell hB1
    have hS1 := hB1.size
    (try simp at hS1)
    (try have hS1_w0 : w.heap.size < w1.heap.size := by omega)
    (try have hS1_w1 : w.heap.size + 1 < w1.heap.size := by omega)
    (try have hS1_w2 : w.heap.size + 1 + 1 < w1.heap.size := by omega)
    (try have hS1_w3 : w.heap.size + 1 + 1 + 1 < w1.heap.size := by omega)
    (try have hS1_w4 : w.heap.size + 1 + 1 + 1 + 1 < w1.heap.size := by omega)
    (try have hL1_w0 : w.heap.size ≤ w1.heap.size := by omega)
    (try have hL1_w1 : w.heap.size + 1 ≤ w1.heap.size := by omega)
    (try have hL1_w2 : w.heap.size + 1 + 1 ≤ w1.heap.size := by omega)
    (try have hL1_w3 : w.heap.size + 1 + 1 + 1 ≤ w1.heap.size := by omega)
    (try have hL1_w : w.heap.size ≤ w1.heap.size + 1 := by omega)
    (try have hM1_1 : w.heap.size < w1.heap.size + 1 := by omega)
    (try have hM1_2 : w.heap.size < w1.heap.size + 1 + 1 := by omega)
    (try have hM1_3 : w.heap.size < w1.heap.size + 1 + 1 + 1 := by omega)
    go_wp2_with fail
    refine bodyPost_ret (v := .tuple #[.bool false, .bool false]) (by go_light; simp [results, Try.results23, go_sem]) rfl ?_
    refine ⟨⟨false, false, rfl, sc_left HI.out⟩, ?_⟩
    repeat (first | with_reducible exact Below.refl _ _ | with_reducible assumption | ((with_reducible refine blA ?_ ?_); (focus (first | omega | (simp <;> omega)))) | (with_reducible refine blD ?_) | (with_reducible refine blN ?_) | ((with_reducible refine blS ?_ ?_); (focus (first | omega | (simp <;> omega)))) | ((with_reducible refine blT (by assumption) ?_ ?_); (focus (first | omega | (simp <;> omega)))))
  | true =>
  cases hi' : indB a' b' c' with
  | false =>
    have HI := Lib.hid hi'
    rw [hi] at hgood
    rw [hi'] at hgood'
    clear hi hi'
    go_enter Try.func23, Try.ntmps23
    go_wp2_with fail
    refine (hgood.out _).mono ?_
    rintro e2 w2 ⟨rfl, hB2⟩
    obtain ⟨hC2, hF2⟩ := bcell hB2
    have hS2 := hB2.size
    (try simp at hS2)
    (try have hS2_w0 : w.heap.size < w2.heap.size := by omega)
    (try have hS2_w1 : w.heap.size + 1 < w2.heap.size := by omega)
    (try have hS2_w2 : w.heap.size + 1 + 1 < w2.heap.size := by omega)
    (try have hS2_w3 : w.heap.size + 1 + 1 + 1 < w2.heap.size := by omega)
    (try have hS2_w4 : w.heap.size + 1 + 1 + 1 + 1 < w2.heap.size := by omega)
    (try have hL2_w0 : w.heap.size ≤ w2.heap.size := by omega)
    (try have hL2_w1 : w.heap.size + 1 ≤ w2.heap.size := by omega)
    (try have hL2_w2 : w.heap.size + 1 + 1 ≤ w2.heap.size := by omega)
    (try have hL2_w3 : w.heap.size + 1 + 1 + 1 ≤ w2.heap.size := by omega)
    (try have hL2_w : w.heap.size ≤ w2.heap.size + 1 := by omega)
    (try have hM2_1 : w.heap.size < w2.heap.size + 1 := by omega)
    (try have hM2_2 : w.heap.size < w2.heap.size + 1 + 1 := by omega)
    (try have hM2_3 : w.heap.size < w2.heap.size + 1 + 1 + 1 := by omega)
    (try have hN2_1_00 : w1.heap.size < w2.heap.size := by omega)
    (try have hN2_1_01 : w1.heap.size < w2.heap.size + 1 := by omega)
    (try have hN2_1_02 : w1.heap.size < w2.heap.size + 1 + 1 := by omega)
    (try have hN2_1_10 : w1.heap.size + 1 < w2.heap.size := by omega)
    (try have hN2_1_11 : w1.heap.size + 1 < w2.heap.size + 1 := by omega)
    (try have hN2_1_12 : w1.heap.size + 1 < w2.heap.size + 1 + 1 := by omega)
    (try have hN2_1_20 : w1.heap.size + 1 + 1 < w2.heap.size := by omega)
    (try have hN2_1_21 : w1.heap.size + 1 + 1 < w2.heap.size + 1 := by omega)
    (try have hN2_1_22 : w1.heap.size + 1 + 1 < w2.heap.size + 1 + 1 := by omega)
    (try have hL2_1 : w1.heap.size ≤ w2.heap.size := by omega)
    (try have hS2_1 : w1.heap.size < w2.heap.size := by omega)
    (try have hS2_1' : w1.heap.size + 1 < w2.heap.size := by omega)
    go_wp2_with fail
    refine (hgood'.out _).mono ?_
    rintro e3 w3 ⟨rfl, hB3⟩
    obtain ⟨hC3, hF3⟩ := bcell hB3
    have hS3 := hB3.size
    (try simp at hS3)
    (try have hS3_w0 : w.heap.size < w3.heap.size := by omega)
    (try have hS3_w1 : w.heap.size + 1 < w3.heap.size := by omega)
    (try have hS3_w2 : w.heap.size + 1 + 1 < w3.heap.size := by omega)
    (try have hS3_w3 : w.heap.size + 1 + 1 + 1 < w3.heap.size := by omega)
    (try have hS3_w4 : w.heap.size + 1 + 1 + 1 + 1 < w3.heap.size := by omega)
    (try have hL3_w0 : w.heap.size ≤ w3.heap.size := by omega)
    (try have hL3_w1 : w.heap.size + 1 ≤ w3.heap.size := by omega)
    (try have hL3_w2 : w.heap.size + 1 + 1 ≤ w3.heap.size := by omega)
    (try have hL3_w3 : w.heap.size + 1 + 1 + 1 ≤ w3.heap.size := by omega)
    (try have hL3_w : w.heap.size ≤ w3.heap.size + 1 := by omega)
    (try have hM3_1 : w.heap.size < w3.heap.size + 1 := by omega)
    (try have hM3_2 : w.heap.size < w3.heap.size + 1 + 1 := by omega)
    (try have hM3_3 : w.heap.size < w3.heap.size + 1 + 1 + 1 := by omega)
    (try have hN3_1_00 : w1.heap.size < w3.heap.size := by omega)
    (try have hN3_1_01 : w1.heap.size < w3.heap.size + 1 := by omega)
    (try have hN3_1_02 : w1.heap.size < w3.heap.size + 1 + 1 := by omega)
    (try have hN3_1_10 : w1.heap.size + 1 < w3.heap.size := by omega)
    (try have hN3_1_11 : w1.heap.size + 1 < w3.heap.size + 1 := by omega)
    (try have hN3_1_12 : w1.heap.size + 1 < w3.heap.size + 1 + 1 := by omega)
    (try have hN3_1_20 : w1.heap.size + 1 + 1 < w3.heap.size := by omega)
    (try have hN3_1_21 : w1.heap.size + 1 + 1 < w3.heap.size + 1 := by omega)
    (try have hN3_1_22 : w1.heap.size + 1 + 1 < w3.heap.size + 1 + 1 := by omega)
    (try have hN3_2_00 : w2.heap.size < w3.heap.size := by omega)
    (try have hN3_2_01 : w2.heap.size < w3.heap.size + 1 := by omega)
    (try have hN3_2_02 : w2.heap.size < w3.heap.size + 1 + 1 := by omega)
    (try have hN3_2_10 : w2.heap.size + 1 < w3.heap.size := by omega)
    (try have hN3_2_11 : w2.heap.size + 1 < w3.heap.size + 1 := by omega)
    (try have hN3_2_12 : w2.heap.size + 1 < w3.heap.size + 1 + 1 := by omega)
    (try have hN3_2_20 : w2.heap.size + 1 + 1 < w3.heap.size := by omega)
    (try have hN3_2_21 : w2.heap.size + 1 + 1 < w3.heap.size + 1 := by omega)
    (try have hN3_2_22 : w2.heap.size + 1 + 1 < w3.heap.size + 1 + 1 := by omega)
    (try have hL3_1 : w1.heap.size ≤ w3.heap.size := by omega)
    (try have hL3_2 : w2.heap.size ≤ w3.heap.size := by omega)
    (try have hS3_1 : w1.heap.size < w3.heap.size := by omega)
    (try have hS3_1' : w1.heap.size + 1 < w3.heap.size := by omega)
    (try have hS3_2 : w2.heap.size < w3.heap.size := by omega)
    (try have hS3_2' : w2.heap.size + 1 < w3.heap.size := by omega)
    go_wp2_with fail
    refine bodyPost_ret (v := .tuple #[.bool false, .bool false]) (by go_light; simp [results, Try.results23, go_sem]) rfl ?_
    refine ⟨⟨false, false, rfl, sc_right HI.out⟩, ?_⟩
    repeat (first | with_reducible exact Below.refl _ _ | with_reducible assumption | ((with_reducible refine blA ?_ ?_); (focus (first | omega | (simp <;> omega)))) | (with_reducible refine blD ?_) | (with_reducible refine blN ?_) | ((with_reducible refine blS ?_ ?_); (focus (first | omega | (simp <;> omega)))) | ((with_reducible refine blT (by assumption) ?_ ?_); (focus (first | omega | (simp <;> omega)))))
  | true =>
  have HI := Lib.hid hi
  have HI' := Lib.hid hi'
  rw [hi] at hgood
  rw [hi'] at hgood'
  have hred := Lib.hid fun w0 => cyReduce_any _ _ a b c w0 (ind_gd hi) (ind_pos hi)
  have hred' := Lib.hid fun w0 => cyReduce_any _ _ a' b' c' w0 (ind_gd hi') (ind_pos hi')
  clear hi hi'
  go_enter Try.func23, Try.ntmps23
  go_wp2_with fail
  refine (hgood.out _).mono ?_
  rintro e8 y1 ⟨rfl, hB8⟩
  obtain ⟨hC8, hF8⟩ := bcell hB8
  have hz8 := hB8.size
  (try simp at hz8)
  have q1 : w.heap.size < y1.heap.size := by omega
  have q2 : w.heap.size + 1 < y1.heap.size := by omega
  go_wp2_with fail
  refine (hgood'.out _).mono ?_
  rintro e9 y2 ⟨rfl, hB9⟩
  obtain ⟨hC9, hF9⟩ := bcell hB9
  have hz9 := hB9.size
  have q3 : w.heap.size < y2.heap.size := by omega
  have q4 : w.heap.size + 1 < y2.heap.size := by omega
  have r0 : ∀ o, y2.cell? ⟨w.heap.size, o, none⟩ = (#[.int .i64 a, .int .i64 b, .int .i64 c] : Array Value)[o]? := by (intro o; (repeat (first | ((with_reducible refine (cell_alloc_old _ _ _ _ ?_).trans ?_); (focus (first | omega | (simp <;> omega)))) | ((with_reducible refine (bC (by assumption) ?_).trans ?_); (focus (first | omega | (simp <;> omega)))) | ((with_reducible refine (bG (by assumption) ?_).trans ?_); (focus (first | omega | (simp <;> omega)))))); simp [go_sem])
  have r1 : ∀ o, y2.cell? ⟨w.heap.size + 1, o, none⟩ = (#[.int .i64 a', .int .i64 b', .int .i64 c'] : Array Value)[o]? := by (intro o; (repeat (first | ((with_reducible refine (cell_alloc_old _ _ _ _ ?_).trans ?_); (focus (first | omega | (simp <;> omega)))) | ((with_reducible refine (bC (by assumption) ?_).trans ?_); (focus (first | omega | (simp <;> omega)))) | ((with_reducible refine (bG (by assumption) ?_).trans ?_); (focus (first | omega | (simp <;> omega)))))); simp [go_sem])
  have HY2 := Lib.hid (show Below w.heap.size w y2 by repeat (first | with_reducible exact Below.refl _ _ | with_reducible assumption | ((with_reducible refine blA ?_ ?_); (focus (first | omega | (simp <;> omega)))) | (with_reducible refine blD ?_) | (with_reducible refine blN ?_) | ((with_reducible refine blS ?_ ?_); (focus (first | omega | (simp <;> omega)))) | ((with_reducible refine blT (by assumption) ?_ ?_); (focus (first | omega | (simp <;> omega))))))
  clear hC8 hF8 hC9 hF9 hB8 hB9
  go_wp2_with fail
  refine (hred.out _).mono ?_
  rintro e1 x1 ⟨⟨⟨g1, g2, g3⟩, ⟨m1, m2, m3, m4⟩, o1, rfl, hR1⟩, hB1⟩
  obtain ⟨hC1, hF1⟩ := bcell hB1
  have hz1 := hB1.size
  (try simp at hz1)
  have l1 : w.heap.size < x1.heap.size := by omega
  have l1' : w.heap.size + 1 < x1.heap.size := by omega
  have HR1 := Lib.hid (show RI (a, b, c) (g1, g2, g3) (m1, m2, m3, m4) o1 from .inl ⟨HI.out, hR1⟩)
  have HB1 := Lib.hid (show Below w.heap.size w x1 by have hX := HY2.out; repeat (first | with_reducible exact Below.refl _ _ | with_reducible assumption | ((with_reducible refine blA ?_ ?_); (focus (first | omega | (simp <;> omega)))) | (with_reducible refine blD ?_) | (with_reducible refine blN ?_) | ((with_reducible refine blS ?_ ?_); (focus (first | omega | (simp <;> omega)))) | ((with_reducible refine blT (by assumption) ?_ ?_); (focus (first | omega | (simp <;> omega))))))
  clear hR1
  go_wp2_with fail
  refine (hred'.out _).mono ?_
  rintro e2 x2 ⟨⟨⟨h1, h2, h3⟩, ⟨n1, n2, n3, n4⟩, o2, rfl, hR2⟩, hB2⟩
  obtain ⟨hC2, hF2⟩ := bcell hB2
  have hz2 := hB2.size
  (try simp at hz2)
  have HR2 := Lib.hid (show RI (a', b', c') (h1, h2, h3) (n1, n2, n3, n4) o2 from .inl ⟨HI'.out, hR2⟩)
  have HB2 := Lib.hid (show Below w.heap.size w x2 by have hX := HB1.out; repeat (first | with_reducible exact Below.refl _ _ | with_reducible assumption | ((with_reducible refine blA ?_ ?_); (focus (first | omega | (simp <;> omega)))) | (with_reducible refine blD ?_) | (with_reducible refine blN ?_) | ((with_reducible refine blS ?_ ?_); (focus (first | omega | (simp <;> omega)))) | ((with_reducible refine blT (by assumption) ?_ ?_); (focus (first | omega | (simp <;> omega))))))
  have k1 : x1.heap.size < x2.heap.size := by omega
  have k2 : x1.heap.size + 1 < x2.heap.size := by omega
  have k3 := HB2.out.size
  have r3 : ∀ o, x2.cell? ⟨w.heap.size, o, none⟩ = (#[.int .i64 a, .int .i64 b, .int .i64 c] : Array Value)[o]? := fun o => by rw [hC2 _ _ (by simp; omega), cell_alloc_old _ _ _ _ (by simp; omega), cell_alloc_old _ _ _ _ (by omega), hC1 _ _ (by omega)]; exact r0 o
  have r4 : ∀ o, x2.cell? ⟨w.heap.size + 1, o, none⟩ = (#[.int .i64 a', .int .i64 b', .int .i64 c'] : Array Value)[o]? := fun o => by rw [hC2 _ _ (by simp; omega), cell_alloc_old _ _ _ _ (by simp; omega), cell_alloc_old _ _ _ _ (by omega), hC1 _ _ (by omega)]; exact r1 o
  have c6 : ∀ o, x2.cell? ⟨x1.heap.size, o, none⟩ = (#[.int .i64 g1, .int .i64 g2, .int .i64 g3] : Array Value)[o]? := by (intro o; (repeat (first | ((with_reducible refine (cell_alloc_old _ _ _ _ ?_).trans ?_); (focus (first | omega | (simp <;> omega)))) | ((with_reducible refine (bC (by assumption) ?_).trans ?_); (focus (first | omega | (simp <;> omega)))) | ((with_reducible refine (bG (by assumption) ?_).trans ?_); (focus (first | omega | (simp <;> omega)))))); simp [go_sem])
  have k4 : x1.heap.size < x2.heap.size + 1 + 1 := by omega
  have k5 : x1.heap.size < x2.heap.size + 1 := by omega
  have s1 : w.heap.size < x2.heap.size := by omega
  have s2 : w.heap.size + 1 < x2.heap.size := by omega
  have s3 : w.heap.size < x2.heap.size + 1 + 1 := by omega
  have s4 : w.heap.size < x2.heap.size + 1 := by omega
  clear hC2
  clear hR2 hB1 hC1 hF1 hB2 hF2
  cases o1 with
  | false =>
    go_wp2_with fail
    refine bodyPost_ret (v := .tuple #[.bool false, .bool false]) (by go_light; simp [results, Try.results23, go_sem]) rfl ?_
    refine ⟨⟨false, false, rfl, _, _, _, _, _, _, HR1.out, HR2.out, rfl, fun _ => rfl, fun h => by cases h⟩, ?_⟩
    have hX := HB2.out
    repeat (first | with_reducible exact Below.refl _ _ | with_reducible assumption | ((with_reducible refine blA ?_ ?_); (focus (first | omega | (simp <;> omega)))) | (with_reducible refine blD ?_) | (with_reducible refine blN ?_) | ((with_reducible refine blS ?_ ?_); (focus (first | omega | (simp <;> omega)))) | ((with_reducible refine blT (by assumption) ?_ ?_); (focus (first | omega | (simp <;> omega)))))
  | true =>
    cases o2 with
    | false =>
      go_wp2_with fail
      refine bodyPost_ret (v := .tuple #[.bool false, .bool false]) (by go_light; simp [results, Try.results23, go_sem]) rfl ?_
      refine ⟨⟨false, false, rfl, _, _, _, _, _, _, HR1.out, HR2.out, rfl, fun _ => rfl, fun h => by cases h⟩, ?_⟩
      have hX := HB2.out
      repeat (first | with_reducible exact Below.refl _ _ | with_reducible assumption | ((with_reducible refine blA ?_ ?_); (focus (first | omega | (simp <;> omega)))) | (with_reducible refine blD ?_) | (with_reducible refine blN ?_) | ((with_reducible refine blS ?_ ?_); (focus (first | omega | (simp <;> omega)))) | ((with_reducible refine blT (by assumption) ?_ ?_); (focus (first | omega | (simp <;> omega)))))
    | true =>
      obtain ⟨_, q1, q2, _, _, _⟩ := HR1.out.good rfl
      obtain ⟨n, hn⟩ := ci_of q1 q2
      have hcyc := Lib.hid fun w0 => cyCycle_any _ _ n g1 g2 g3 w0 hn
      have HN := Lib.hid hn
      have hlen : Hid ((cyc (isqrt (discW a b c)) n (g1, g2, g3)).length ≤ 1000000) := Lib.hid (by rw [cyc_length]; have := HN.out.n2; omega)
      clear q1 q2 hn
      obtain ⟨L, hL⟩ : ∃ L, cyc (isqrt (discW a b c)) n (g1, g2, g3) = L := ⟨_, rfl⟩
      rw [hL] at hlen
      simp only [hL] at hcyc
      have HL := Lib.hid hL
      clear hL
      by_cases hdd : discW a b c = discW a' b' c'
      rotate_left
      · have HD : Hid (¬ InC (isqrt (discW a b c)) (g1, g2, g3) (h1, h2, h3)) := Lib.hid fun ⟨i, hi⟩ => hdd (by
          obtain ⟨_, _, z1, _, _, _⟩ := HR1.out.good rfl
          obtain ⟨_, _, z2, _, _, _⟩ := HR2.out.good rfl
          have e1 := z1.ds
          have e2 := z2.ds
          rw [← hi, nbn_disc, e1] at e2
          exact e2)
        have hdd' : (discW a b c == discW a' b' c') = false := by simp [hdd]
        clear hdd
        go_wp2_with fail
        refine wp_region_past (by kernel_rfl) (by kernel_rfl) ?_
        repeat (first | go_big_quiet_skip | (go_big_quiet_want; go_big_quiet_op; first | go_big_quiet_on | (apply Exists.intro; refine ⟨fun _ => ?_, ?_⟩; (focus ((go_at_call 74; exact past_of (foDisc_any _ _ _ _)))); go_big_quiet_on)))
        refine wpQuiet_nil ?_
        intro w4 hw'
        have hB4 := past_below hw'
        clear hw'
        obtain ⟨hC4, hF4⟩ := bcell hB4
        have hS4 := hB4.size
        (try simp at hS4)
        (try have hS4_w0 : w.heap.size < w4.heap.size := by omega)
        (try have hS4_w1 : w.heap.size + 1 < w4.heap.size := by omega)
        (try have hS4_w2 : w.heap.size + 1 + 1 < w4.heap.size := by omega)
        (try have hS4_w3 : w.heap.size + 1 + 1 + 1 < w4.heap.size := by omega)
        (try have hS4_w4 : w.heap.size + 1 + 1 + 1 + 1 < w4.heap.size := by omega)
        (try have hS4_1 : w1.heap.size < w4.heap.size := by omega)
        (try have hS4_2 : w2.heap.size < w4.heap.size := by omega)
        (try have hS4_3 : w3.heap.size < w4.heap.size := by omega)
        (try have hS4_1' : w1.heap.size + 1 < w4.heap.size := by omega)
        (try have hS4_2' : w2.heap.size + 1 < w4.heap.size := by omega)
        (try have hS4_3' : w3.heap.size + 1 < w4.heap.size := by omega)
        go_wp2_with fail
        refine bodyPost_ret (v := .tuple #[.bool false, .bool true]) (by go_light; simp [results, Try.results23, go_sem]) rfl ?_
        refine ⟨⟨false, true, rfl, _, _, _, _, _, _, HR1.out, HR2.out, rfl, (fun h => by cases h), fun _ => ⟨fun h => (by cases h), fun h => absurd h HD.out⟩⟩, ?_⟩
        have hX := HB2.out
        repeat (first | with_reducible exact Below.refl _ _ | with_reducible assumption | ((with_reducible refine blA ?_ ?_); (focus (first | omega | (simp <;> omega)))) | (with_reducible refine blD ?_) | (with_reducible refine blN ?_) | ((with_reducible refine blS ?_ ?_); (focus (first | omega | (simp <;> omega)))) | ((with_reducible refine blT (by assumption) ?_ ?_); (focus (first | omega | (simp <;> omega)))))
      have hdd' : (discW a b c == discW a' b' c') = true := by simp [hdd]
      clear hdd
      go_wp2_with fail
      refine region_mix 11 [0, 1, 2, 3, 4, 5, 6, 8] [(false, 7), (false, 9), (true, 10)] (by kernel_rfl) (by kernel_rfl) (by kernel_rfl) ?_
      apply Exists.intro
      refine ⟨fun w0 hw0 => ?_, ?_⟩
      · obtain ⟨hC0, hF0⟩ := bcell hw0
        have hS0 := hw0.size
        (try simp at hS0)
        (try have hS0_w0 : w.heap.size < w0.heap.size := by omega)
        (try have hS0_w1 : w.heap.size + 1 < w0.heap.size := by omega)
        (try have hS0_w2 : w.heap.size + 1 + 1 < w0.heap.size := by omega)
        (try have hS0_w3 : w.heap.size + 1 + 1 + 1 < w0.heap.size := by omega)
        (try have hS0_w4 : w.heap.size + 1 + 1 + 1 + 1 < w0.heap.size := by omega)
        (try have hL0_w0 : w.heap.size ≤ w0.heap.size := by omega)
        (try have hL0_w1 : w.heap.size + 1 ≤ w0.heap.size := by omega)
        (try have hL0_w2 : w.heap.size + 1 + 1 ≤ w0.heap.size := by omega)
        (try have hL0_w3 : w.heap.size + 1 + 1 + 1 ≤ w0.heap.size := by omega)
        (try have hL0_w : w.heap.size ≤ w0.heap.size + 1 := by omega)
        (try have hM0_1 : w.heap.size < w0.heap.size + 1 := by omega)
        (try have hM0_2 : w.heap.size < w0.heap.size + 1 + 1 := by omega)
        (try have hM0_3 : w.heap.size < w0.heap.size + 1 + 1 + 1 := by omega)
        (try have hN0_1_00 : w1.heap.size < w0.heap.size := by omega)
        (try have hN0_1_01 : w1.heap.size < w0.heap.size + 1 := by omega)
        (try have hN0_1_02 : w1.heap.size < w0.heap.size + 1 + 1 := by omega)
        (try have hN0_1_10 : w1.heap.size + 1 < w0.heap.size := by omega)
        (try have hN0_1_11 : w1.heap.size + 1 < w0.heap.size + 1 := by omega)
        (try have hN0_1_12 : w1.heap.size + 1 < w0.heap.size + 1 + 1 := by omega)
        (try have hN0_1_20 : w1.heap.size + 1 + 1 < w0.heap.size := by omega)
        (try have hN0_1_21 : w1.heap.size + 1 + 1 < w0.heap.size + 1 := by omega)
        (try have hN0_1_22 : w1.heap.size + 1 + 1 < w0.heap.size + 1 + 1 := by omega)
        (try have hN0_2_00 : w2.heap.size < w0.heap.size := by omega)
        (try have hN0_2_01 : w2.heap.size < w0.heap.size + 1 := by omega)
        (try have hN0_2_02 : w2.heap.size < w0.heap.size + 1 + 1 := by omega)
        (try have hN0_2_10 : w2.heap.size + 1 < w0.heap.size := by omega)
        (try have hN0_2_11 : w2.heap.size + 1 < w0.heap.size + 1 := by omega)
        (try have hN0_2_12 : w2.heap.size + 1 < w0.heap.size + 1 + 1 := by omega)
        (try have hN0_2_20 : w2.heap.size + 1 + 1 < w0.heap.size := by omega)
        (try have hN0_2_21 : w2.heap.size + 1 + 1 < w0.heap.size + 1 := by omega)
        (try have hN0_2_22 : w2.heap.size + 1 + 1 < w0.heap.size + 1 + 1 := by omega)
        (try have hN0_3_00 : w3.heap.size < w0.heap.size := by omega)
        (try have hN0_3_01 : w3.heap.size < w0.heap.size + 1 := by omega)
        (try have hN0_3_02 : w3.heap.size < w0.heap.size + 1 + 1 := by omega)
        (try have hN0_3_10 : w3.heap.size + 1 < w0.heap.size := by omega)
        (try have hN0_3_11 : w3.heap.size + 1 < w0.heap.size + 1 := by omega)
        (try have hN0_3_12 : w3.heap.size + 1 < w0.heap.size + 1 + 1 := by omega)
        (try have hN0_3_20 : w3.heap.size + 1 + 1 < w0.heap.size := by omega)
        (try have hN0_3_21 : w3.heap.size + 1 + 1 < w0.heap.size + 1 := by omega)
        (try have hN0_3_22 : w3.heap.size + 1 + 1 < w0.heap.size + 1 + 1 := by omega)
        (try have hL0_1 : w1.heap.size ≤ w0.heap.size := by omega)
        (try have hL0_2 : w2.heap.size ≤ w0.heap.size := by omega)
        (try have hL0_3 : w3.heap.size ≤ w0.heap.size := by omega)
        (try have hS0_1 : w1.heap.size < w0.heap.size := by omega)
        (try have hS0_1' : w1.heap.size + 1 < w0.heap.size := by omega)
        (try have hS0_2 : w2.heap.size < w0.heap.size := by omega)
        (try have hS0_2' : w2.heap.size + 1 < w0.heap.size := by omega)
        (try have hS0_3 : w3.heap.size < w0.heap.size := by omega)
        (try have hS0_3' : w3.heap.size + 1 < w0.heap.size := by omega)
        have hS0x : x1.heap.size < w0.heap.size := (by omega); have hS0y : x2.heap.size < w0.heap.size := (by omega); have hS0z : w.heap.size < w0.heap.size := (by omega); have hS0w : w.heap.size + 1 < w0.heap.size := (by omega)
        simp only [List.filterMap_cons, List.filterMap_nil, List.getElem?_cons_zero, List.getElem?_cons_succ]
        show wpQuiet _ _ _ _ [_, _, _, _, _, _, _, _] _
        repeat (first | go_big_quiet_skip | (go_big_quiet_want; go_big_quiet_op; first | go_big_quiet_on | (apply Exists.intro; refine ⟨fun _ => ?_, ?_⟩; (focus ((go_at_call 74; exact past_of (foDisc_any _ _ _ _)))); go_big_quiet_on)))
        refine wpQuiet_nil ?_
        rfl
      intro W hW hWz
      simp only [List.filterMap_cons, List.filterMap_nil, List.getElem?_cons_zero, List.getElem?_cons_succ, Option.map_some, List.drop_succ_cons, List.drop_zero]
      show effW _ _ _ _ [(false, _), (false, _), (true, _)] _ _
      refine effM_of fun wa hBa => ?_
      have hza := hBa.size
      try simp at hza
      go_wp2_with fail
      refine (hcyc.out _).mono ?_
      rintro e3 wb ⟨⟨v, rfl, hr⟩, hBb⟩
      obtain ⟨va, vc, hv, hvc, _, hsee⟩ := hr.sees c3_len
      subst hv
      have HS := Lib.hid hsee
      have hzb := hBb.size
      clear hsee hr hvc
      go_wp2
      refine effQ_of rfl (by repeat (first | with_reducible exact Below.refl _ _ | with_reducible assumption | ((with_reducible refine blA ?_ ?_); (focus (first | omega | (simp <;> omega)))) | (with_reducible refine blD ?_) | (with_reducible refine blN ?_) | ((with_reducible refine blS ?_ ?_); (focus (first | omega | (simp <;> omega)))) | ((with_reducible refine blT (by assumption) ?_ ?_); (focus (first | omega | (simp <;> omega)))))) ?_
      refine effM_of fun wc hBc => ?_
      have hzc := hBc.size
      try simp at hzc
      go_wp2_with fail
      refine (cyHas_any L (h1, h2, h3) va vc _ _ (HS.out.below hBc) hlen.out).mono ?_
      rintro e4 wd ⟨rfl, hBd⟩
      have hzd := hBd.size
      go_wp2
      refine effQ_of rfl (by repeat (first | with_reducible exact Below.refl _ _ | with_reducible assumption | ((with_reducible refine blA ?_ ?_); (focus (first | omega | (simp <;> omega)))) | (with_reducible refine blD ?_) | (with_reducible refine blN ?_) | ((with_reducible refine blS ?_ ?_); (focus (first | omega | (simp <;> omega)))) | ((with_reducible refine blT (by assumption) ?_ ?_); (focus (first | omega | (simp <;> omega)))))) ?_
      refine effQuiet (by kernel_rfl) ?_
      apply Exists.intro
      refine ⟨fun w0 hw0 => ?_, ?_⟩
      · repeat (first | go_big_quiet_skip | (go_big_quiet_want; go_big_quiet_op; first | go_big_quiet_on | (apply Exists.intro; refine ⟨fun _ => ?_, ?_⟩; (focus (fail)); go_big_quiet_on)))
        refine wpQuiet_nil ?_
        rfl
      intro wl hwl
      have hBl := past_below hwl
      clear hwl
      go_wp2_with fail
      refine bodyPost_ret (v := .tuple #[.bool (decide ((h1, h2, h3) ∈ L)), .bool true]) (by go_light; simp [results, Try.results23, go_sem]) rfl ?_
      refine ⟨⟨decide ((h1, h2, h3) ∈ L), true, rfl, _, _, _, _, _, _, HR1.out, HR2.out, rfl, (fun h => by cases h), fun _ => ?_⟩, ?_⟩
      · rw [inC_cyc HN.out]
        show _ ↔ _ ∈ cyc (isqrt (discW a b c)) n (g1, g2, g3)
        rw [HL.out]
        simp
      · have hX := HB2.out
        (try simp at hWz)
        have hY : Below x2.heap.size x2 wl := by repeat (first | with_reducible exact Below.refl _ _ | with_reducible assumption | ((with_reducible refine blA ?_ ?_); (focus (first | omega | (simp <;> omega)))) | (with_reducible refine blD ?_) | (with_reducible refine blN ?_) | ((with_reducible refine blS ?_ ?_); (focus (first | omega | (simp <;> omega)))) | ((with_reducible refine blT (by assumption) ?_ ?_); (focus (first | omega | (simp <;> omega)))))
        exact hX.trans (hY.mono hX.size)
end Go.Proofs.Ytemnkfigjpphgaa
