/-
  IdealProduct: the program's way.
-/
import Derived.Test.YtladcjoiaoaedaaMulF
import Derived.Test.YtladcjoiaoaedaaSum
namespace Go.Proofs.Ytladcjoiaoaedaa
open Go.RowKit
attribute [local simp, local go_sem] past_cell past_frozen past_tape
set_option maxRecDepth 100000 in
set_option maxHeartbeats 2000000 in
theorem idealTimes_any (d e a b e' a' b' : Int) (w : World) (h : idB d e a b = true) (h' : idB d e' a' b' = true) :
    Calls Try.prog 48 #[.int .i64 d, .agg #[.int .i64 e, .int .i64 a, .int .i64 b], .agg #[.int .i64 e', .int .i64 a', .int .i64 b']] w fun en w' => en = .returned (.agg #[.int .i64 (lE (mulL d a b a' b') * (e * e')), .int .i64 (lA (mulL d a b a' b')), .int .i64 (lB (mulL d a b a' b'))]) ∧ Below w.heap.size w w' := by
  obtain ⟨hL, hE⟩ := mul_lf h h'
  obtain ⟨_, ⟨m1, m2⟩, ⟨m3, m4⟩, ⟨m5, m6⟩, ⟨m7, m8⟩, ⟨m9, m10⟩, ⟨m11, m12⟩, _, _, a0, a0', b0, b1, b0', b1', a1, a1', d0, d1⟩ := mul_facts h h'
  obtain ⟨_, e0, e1, _⟩ := idB_true h
  obtain ⟨_, e0', e1', _⟩ := idB_true h'
  have hE0 : 0 ≤ lE (mulL d a b a' b') := by unfold lE; omega
  obtain ⟨x1, x2⟩ := mul_bd (show Bd 10000 e from ⟨by omega, by omega⟩) (show Bd 10000 e' from ⟨by omega, by omega⟩) (show (10000 : Int) * 10000 ≤ 100000000 by decide)
  obtain ⟨x3, x4⟩ := mul_bd (show Bd 20000 (lE (mulL d a b a' b')) from ⟨by omega, by omega⟩) (show Bd 100000000 (e * e') from ⟨by omega, by omega⟩) (show (20000 : Int) * 100000000 ≤ 2000000000000 by decide)
  rw [Int.neg_tdiv] at m11 m12
  clear h h'
  go_enter Try.func48, Try.ntmps48
  go_wp2_with fail
  refine (idealOfL hL _ _ _ ?_ ?_).mono ?_
  · simp
  · intro k hk
    have hk : k < 4 := hk
    match k, hk with
    | 0, _ => simp [go_sem, mulL]
    | 1, _ => simp [go_sem, mulL]
    | 2, _ => simp [go_sem, mulL]
    | 3, _ => simp [go_sem, mulL]
  rintro ex wa ⟨rfl, hBa⟩
  have hSa := hBa.size
  simp at hSa
  have hRa : ∀ o, wa.cell? ⟨w.heap.size, o, none⟩ = (#[.int .i64 e, .int .i64 a, .int .i64 b] : Array Value)[o]? := by (intro o; (repeat (first | ((with_reducible refine (cell_alloc_old _ _ _ _ ?_).trans ?_); (focus (first | omega | (simp <;> omega)))) | ((with_reducible refine (bC (by assumption) ?_).trans ?_); (focus (first | omega | (simp <;> omega)))) | ((with_reducible refine (bG (by assumption) ?_).trans ?_); (focus (first | omega | (simp <;> omega)))))); simp [go_sem])
  have hRb : ∀ o, wa.cell? ⟨w.heap.size + 1, o, none⟩ = (#[.int .i64 e', .int .i64 a', .int .i64 b'] : Array Value)[o]? := by (intro o; (repeat (first | ((with_reducible refine (cell_alloc_old _ _ _ _ ?_).trans ?_); (focus (first | omega | (simp <;> omega)))) | ((with_reducible refine (bC (by assumption) ?_).trans ?_); (focus (first | omega | (simp <;> omega)))) | ((with_reducible refine (bG (by assumption) ?_).trans ?_); (focus (first | omega | (simp <;> omega)))))); simp [go_sem])
  have hRc : ∀ o, wa.cell? ⟨w.heap.size + 1 + 1, o, none⟩ = (#[.int .i64 0, .int .i64 0, .int .i64 0] : Array Value)[o]? := by (intro o; (repeat (first | ((with_reducible refine (cell_alloc_old _ _ _ _ ?_).trans ?_); (focus (first | omega | (simp <;> omega)))) | ((with_reducible refine (bC (by assumption) ?_).trans ?_); (focus (first | omega | (simp <;> omega)))) | ((with_reducible refine (bG (by assumption) ?_).trans ?_); (focus (first | omega | (simp <;> omega)))))); simp [go_sem])
  have hFc : ∀ o, wa.frozen? ⟨w.heap.size + 1 + 1, o, none⟩ = false := by (intro o; (repeat (first | ((with_reducible refine (frozen_alloc_old _ _ _ _ ?_).trans ?_); (focus (first | omega | (simp <;> omega)))) | ((with_reducible refine (fG (by assumption) ?_).trans ?_); (focus (first | omega | (simp <;> omega)))))); simp [go_sem])
  have hz1 : w.heap.size < wa.heap.size := by omega
  have hz2 : w.heap.size + 1 < wa.heap.size := by omega
  have hz3 : w.heap.size + 1 + 1 < wa.heap.size := by omega
  have hn1 : ¬ w.heap.size = wa.heap.size := by omega
  have hn2 : ¬ w.heap.size + 1 = wa.heap.size := by omega
  have hn3 : ¬ w.heap.size + 1 + 1 = wa.heap.size := by omega
  go_wp2
  refine bodyPost_ret (v := .agg #[.int .i64 (lE (mulL d a b a' b') * (e * e')), .int .i64 (lA (mulL d a b a' b')), .int .i64 (lB (mulL d a b a' b'))]) (by go_light; (try clear hC14); (try clear hF14); (try clear hB14); (try clear hC13); (try clear hF13); (try clear hB13); (try clear hC12); (try clear hF12); (try clear hB12); (try clear hC11); (try clear hF11); (try clear hB11); (try clear hC10); (try clear hF10); (try clear hB10); (try clear hC9); (try clear hF9); (try clear hB9); (try clear hC8); (try clear hF8); (try clear hB8); (try clear hC7); (try clear hF7); (try clear hB7); (try clear hC6); (try clear hF6); (try clear hB6); (try clear hC5); (try clear hF5); (try clear hB5); (try clear hC4); (try clear hF4); (try clear hB4); (try clear hC3); (try clear hF3); (try clear hB3); (try clear hC2); (try clear hF2); (try clear hB2); (try clear hC1); (try clear hF1); (try clear hB1); simp [results, Try.results48, go_sem, hRa, hRb, hRc, hn1, hn2, hn3, hz1, hz2, hz3]) rfl ⟨rfl, ?_⟩
  repeat (first | with_reducible exact Below.refl _ _ | with_reducible assumption | ((with_reducible refine blA ?_ ?_); (focus (first | omega | (simp <;> omega)))) | (with_reducible refine blD ?_) | (with_reducible refine blN ?_) | ((with_reducible refine blS ?_ ?_); (focus (first | omega | (simp <;> omega)))) | ((with_reducible refine blT (by assumption) ?_ ?_); (focus (first | omega | (simp <;> omega)))))
/-- When IdealProduct has an answer. -/
def muB (d e a b e' a' b' : Int) : Bool := idB d e a b && idB d e' a' b'
def muE (d e a b e' a' b' : Int) : Int := lE (mulL d a b a' b') * (e * e')
def muOk (d e a b e' a' b' : Int) : Bool := muB d e a b e' a' b' && idB d (muE d e a b e' a' b') (lA (mulL d a b a' b')) (lB (mulL d a b a' b'))
end Go.Proofs.Ytladcjoiaoaedaa
