/-
  Matrices that act on cubes: the reference's turns.
-/
import Derived.Test.YtphmjehmeigmdaaActS
namespace Go.Proofs.Ytphmjehmeigmdaa
open Go.RowKit
attribute [local simp, local go_sem] past_cell past_frozen past_tape
def tT (o : Nat) : Nat := match o with | 0 => 0 | 1 => 2 | 2 => 4 | 3 => 6 | 4 => 1 | 5 => 3 | 6 => 5 | _ => 7
def tuN (x : Nat → Int) : Nat → Nat → Int
  | 0, o => x o
  | n + 1, o => tuN x n (tT o)
theorem set8 {w1 : World} {b : Nat} {x y : Nat → Int} (h : ∀ o, w1.cell? ⟨b, o, none⟩ = (#[.int .i64 (x 0), .int .i64 (x 1), .int .i64 (x 2), .int .i64 (x 3), .int .i64 (x 4), .int .i64 (x 5), .int .i64 (x 6), .int .i64 (x 7)] : Array Value)[o]?) (o : Nat) : ((((((((w1.setCell ⟨b, 0, none⟩ (.int .i64 (y 0))).setCell ⟨b, 1, none⟩ (.int .i64 (y 1))).setCell ⟨b, 2, none⟩ (.int .i64 (y 2))).setCell ⟨b, 3, none⟩ (.int .i64 (y 3))).setCell ⟨b, 4, none⟩ (.int .i64 (y 4))).setCell ⟨b, 5, none⟩ (.int .i64 (y 5))).setCell ⟨b, 6, none⟩ (.int .i64 (y 6))).setCell ⟨b, 7, none⟩ (.int .i64 (y 7))).cell? ⟨b, o, none⟩ = (#[.int .i64 (y 0), .int .i64 (y 1), .int .i64 (y 2), .int .i64 (y 3), .int .i64 (y 4), .int .i64 (y 5), .int .i64 (y 6), .int .i64 (y 7)] : Array Value)[o]? := by
  match o with
  | 0 => simp [go_sem, h]
  | 1 => simp [go_sem, h]
  | 2 => simp [go_sem, h]
  | 3 => simp [go_sem, h]
  | 4 => simp [go_sem, h]
  | 5 => simp [go_sem, h]
  | 6 => simp [go_sem, h]
  | 7 => simp [go_sem, h]
  | n + 8 => simp [go_sem, h]
theorem set8_far {w1 : World} {b c : Nat} {y : Nat → Int} (hn : b ≠ c) (o : Nat) : ((((((((w1.setCell ⟨b, 0, none⟩ (.int .i64 (y 0))).setCell ⟨b, 1, none⟩ (.int .i64 (y 1))).setCell ⟨b, 2, none⟩ (.int .i64 (y 2))).setCell ⟨b, 3, none⟩ (.int .i64 (y 3))).setCell ⟨b, 4, none⟩ (.int .i64 (y 4))).setCell ⟨b, 5, none⟩ (.int .i64 (y 5))).setCell ⟨b, 6, none⟩ (.int .i64 (y 6))).setCell ⟨b, 7, none⟩ (.int .i64 (y 7))).cell? ⟨c, o, none⟩ = w1.cell? ⟨c, o, none⟩ := by
  rw [set_other _ _ _ _ _ _ (Or.inl hn), set_other _ _ _ _ _ _ (Or.inl hn), set_other _ _ _ _ _ _ (Or.inl hn), set_other _ _ _ _ _ _ (Or.inl hn), set_other _ _ _ _ _ _ (Or.inl hn), set_other _ _ _ _ _ _ (Or.inl hn), set_other _ _ _ _ _ _ (Or.inl hn), set_other _ _ _ _ _ _ (Or.inl hn)]
theorem tuN_B5 {x : Nat → Int} (h : ∀ k, B5 (x k)) : ∀ n k, B5 (tuN x n k) := by
  intro n
  induction n with
  | zero => exact h
  | succ n ih => intro k; exact ih _
set_option maxRecDepth 100000 in
set_option maxHeartbeats 4000000 in
theorem cuAct_any (x : Nat → Int) (i : Nat) (p q r s : Int) (w : World) (hi1 : 1 ≤ i) (hi2 : i ≤ 3) (hx : ∀ k, B5 (x k)) (hp : Bd 1000000 p) (hq : Bd 1000000 q) (hr : Bd 1000000 r) (hs : Bd 1000000 s) :
    Calls Try.prog 49 #[.agg #[.int .i64 (x 0), .int .i64 (x 1), .int .i64 (x 2), .int .i64 (x 3), .int .i64 (x 4), .int .i64 (x 5), .int .i64 (x 6), .int .i64 (x 7)], .int .i64 (i : Int), .agg #[.int .i64 p, .int .i64 q, .int .i64 r, .int .i64 s]] w fun en w' => en = .returned (.agg #[.int .i64 (tuN (ocN (tuN x (i - 1)) p q r s 4) (4 - i) 0), .int .i64 (tuN (ocN (tuN x (i - 1)) p q r s 4) (4 - i) 1), .int .i64 (tuN (ocN (tuN x (i - 1)) p q r s 4) (4 - i) 2), .int .i64 (tuN (ocN (tuN x (i - 1)) p q r s 4) (4 - i) 3), .int .i64 (tuN (ocN (tuN x (i - 1)) p q r s 4) (4 - i) 4), .int .i64 (tuN (ocN (tuN x (i - 1)) p q r s 4) (4 - i) 5), .int .i64 (tuN (ocN (tuN x (i - 1)) p q r s 4) (4 - i) 6), .int .i64 (tuN (ocN (tuN x (i - 1)) p q r s 4) (4 - i) 7)]) ∧ Below w.heap.size w w' := by
  have HX := Lib.hid hx
  clear hx
  go_enter Try.func49, Try.ntmps49
  go_wp2
  go_loopw [7] (fun i' wr => ∃ n : Nat, n + 1 ≤ i ∧ i' = .int .i64 ((n : Int) + 1) ∧ Hid (∀ o, wr.cell? ⟨w.heap.size, o, none⟩ = (#[.int .i64 (tuN x n 0), .int .i64 (tuN x n 1), .int .i64 (tuN x n 2), .int .i64 (tuN x n 3), .int .i64 (tuN x n 4), .int .i64 (tuN x n 5), .int .i64 (tuN x n 6), .int .i64 (tuN x n 7)] : Array Value)[o]?) ∧ Hid (∀ o, wr.frozen? ⟨w.heap.size, o, none⟩ = false) ∧ Hid (∀ o, wr.cell? ⟨w.heap.size + 1, o, none⟩ = (#[.int .i64 p, .int .i64 q, .int .i64 r, .int .i64 s] : Array Value)[o]?) ∧ Hid (∀ o, wr.cell? ⟨w.heap.size + 1 + 1, o, none⟩ = (#[.int .i64 0, .int .i64 0, .int .i64 0, .int .i64 0, .int .i64 0, .int .i64 0, .int .i64 0, .int .i64 0] : Array Value)[o]?) ∧ Hid (∀ o, wr.frozen? ⟨w.heap.size + 1 + 1, o, none⟩ = false) ∧ Hid (Below w.heap.size w wr) ∧ w.heap.size + 1 + 1 + 1 ≤ wr.heap.size) (fun i' _ => i + 1 - (intOf i').toNat)
  case atStart =>
    refine ⟨0, by omega, rfl, ?_, ?_, ?_, ?_, ?_, ?_, by simp⟩
    · show ∀ o, _ = _
      intro o; simp [go_sem, tuN]
    · show ∀ o, _ = _
      intro o; simp [go_sem]
    · show ∀ o, _ = _
      intro o; simp [go_sem]
    · show ∀ o, _ = _
      intro o; simp [go_sem]
    · show ∀ o, _ = _
      intro o; simp [go_sem]
    · show Below _ _ _
      repeat (first | with_reducible exact Below.refl _ _ | with_reducible assumption | ((with_reducible refine blA ?_ ?_); (focus (first | omega | (simp <;> omega)))) | (with_reducible refine blD ?_) | (with_reducible refine blN ?_) | ((with_reducible refine blS ?_ ?_); (focus (first | omega | (simp <;> omega)))) | ((with_reducible refine blT (by assumption) ?_ ?_); (focus (first | omega | (simp <;> omega)))))
  case round =>
    obtain ⟨n, hn, rfl, hc, hf, hm, hro, hfo, hb, hz⟩ := hrel
    have hl0 : w.heap.size < wr.heap.size := by omega
    have hl1 : w.heap.size + 1 < wr.heap.size := by omega
    have hl2 : w.heap.size + 1 + 1 < wr.heap.size := by omega
    have hcr := hc.out
    have hfr := hf.out
    have hmr := hm.out
    by_cases hlt : n + 1 < i
    · go_wp2_with fail
      refine (cuTurn_any _ _ _ _ _ _ _ _ _).mono ?_
      rintro ex wa ⟨rfl, hBa⟩
      have hSa := hBa.size
      have hca : ∀ o, wa.cell? ⟨w.heap.size, o, none⟩ = (#[.int .i64 (tuN x n 0), .int .i64 (tuN x n 1), .int .i64 (tuN x n 2), .int .i64 (tuN x n 3), .int .i64 (tuN x n 4), .int .i64 (tuN x n 5), .int .i64 (tuN x n 6), .int .i64 (tuN x n 7)] : Array Value)[o]? := fun o => by rw [bG hBa hl0, hcr]
      have hfa : ∀ o, wa.frozen? ⟨w.heap.size, o, none⟩ = false := fun o => by rw [fG hBa hl0, hfr]
      go_wp2
      go_roundw
      case rel =>
        go_light
        refine ⟨n + 1, by omega, by go_num, ?_, ?_, ?_, ?_, ?_, ?_, ?_⟩
        · show ∀ o, _ = _
          exact fun o => set8 (x := tuN x n) (y := tuN x (n + 1)) hca o
        · show ∀ o, _ = _
          intro o; simp [go_sem, hfa]
        · show ∀ o, _ = _
          intro o
          refine (set8_far (y := tuN x (n + 1)) (by omega) o).trans ?_
          rw [bG hBa hl1, hmr]
        · show ∀ o, _ = _
          intro o
          refine (set8_far (y := tuN x (n + 1)) (by omega) o).trans ?_
          rw [bG hBa hl2, hro.out]
        · show ∀ o, _ = _
          intro o; simp [go_sem, fG hBa hl2, hfo.out]
        · show Below _ _ _
          have h := hb.out
          repeat (first | with_reducible exact Below.refl _ _ | with_reducible assumption | ((with_reducible refine blA ?_ ?_); (focus (first | omega | (simp <;> omega)))) | (with_reducible refine blD ?_) | (with_reducible refine blN ?_) | ((with_reducible refine blS ?_ ?_); (focus (first | omega | (simp <;> omega)))) | ((with_reducible refine blT (by assumption) ?_ ?_); (focus (first | omega | (simp <;> omega)))))
        · simp; omega
      case measure => simp [intOf]; omega
    · have hn' : i = n + 1 := by omega
      subst hn'
      have hro' := hro.out
      have hfo' := hfo.out
      go_wp2_with fail
      refine (cuFirst_any (tuN x n) p q r s _ (tuN_B5 HX.out n) hp hq hr hs).mono ?_
      rintro ex wa ⟨rfl, hBa⟩
      have hSa := hBa.size
      have hca : ∀ o, wa.cell? ⟨w.heap.size, o, none⟩ = (#[.int .i64 (tuN x n 0), .int .i64 (tuN x n 1), .int .i64 (tuN x n 2), .int .i64 (tuN x n 3), .int .i64 (tuN x n 4), .int .i64 (tuN x n 5), .int .i64 (tuN x n 6), .int .i64 (tuN x n 7)] : Array Value)[o]? := fun o => by rw [bG hBa hl0, hcr]
      have hfa : ∀ o, wa.frozen? ⟨w.heap.size, o, none⟩ = false := fun o => by rw [fG hBa hl0, hfr]
      have hma : ∀ o, wa.cell? ⟨w.heap.size + 1, o, none⟩ = (#[.int .i64 p, .int .i64 q, .int .i64 r, .int .i64 s] : Array Value)[o]? := fun o => by rw [bG hBa hl1, hmr]
      have hra : Hid (∀ o, wa.cell? ⟨w.heap.size + 1 + 1, o, none⟩ = (#[.int .i64 0, .int .i64 0, .int .i64 0, .int .i64 0, .int .i64 0, .int .i64 0, .int .i64 0, .int .i64 0] : Array Value)[o]?) := fun o => by rw [bG hBa hl2, hro']
      have hga : Hid (∀ o, wa.frozen? ⟨w.heap.size + 1 + 1, o, none⟩ = false) := fun o => by rw [fG hBa hl2, hfo']
      have hBW : Hid (Below w.heap.size w wa) := by
        show Below _ _ _
        have h := hb.out
        repeat (first | with_reducible exact Below.refl _ _ | with_reducible assumption | ((with_reducible refine blA ?_ ?_); (focus (first | omega | (simp <;> omega)))) | (with_reducible refine blD ?_) | (with_reducible refine blN ?_) | ((with_reducible refine blS ?_ ?_); (focus (first | omega | (simp <;> omega)))) | ((with_reducible refine blT (by assumption) ?_ ?_); (focus (first | omega | (simp <;> omega)))))
      clear hBa hmr hro' hfo' hcr hfr
      go_wp2
      go_loopw [8] (fun i' wr => ∃ m : Nat, m + n ≤ 3 ∧ i' = .int .i64 ((n : Int) + 1 + m) ∧ Hid (∀ o, wr.cell? ⟨w.heap.size, o, none⟩ = (#[.int .i64 (tuN (ocN (tuN x n) p q r s 4) m 0), .int .i64 (tuN (ocN (tuN x n) p q r s 4) m 1), .int .i64 (tuN (ocN (tuN x n) p q r s 4) m 2), .int .i64 (tuN (ocN (tuN x n) p q r s 4) m 3), .int .i64 (tuN (ocN (tuN x n) p q r s 4) m 4), .int .i64 (tuN (ocN (tuN x n) p q r s 4) m 5), .int .i64 (tuN (ocN (tuN x n) p q r s 4) m 6), .int .i64 (tuN (ocN (tuN x n) p q r s 4) m 7)] : Array Value)[o]?) ∧ Hid (∀ o, wr.frozen? ⟨w.heap.size, o, none⟩ = false) ∧ Hid (∀ o, wr.cell? ⟨w.heap.size + 1 + 1, o, none⟩ = (#[.int .i64 0, .int .i64 0, .int .i64 0, .int .i64 0, .int .i64 0, .int .i64 0, .int .i64 0, .int .i64 0] : Array Value)[o]?) ∧ Hid (∀ o, wr.frozen? ⟨w.heap.size + 1 + 1, o, none⟩ = false) ∧ Hid (Below w.heap.size w wr) ∧ w.heap.size + 1 + 1 + 1 ≤ wr.heap.size) (fun i' _ => 5 - (intOf i').toNat)
      case atStart =>
        refine ⟨0, by omega, by go_num, ?_, ?_, ?_, ?_, ?_, by simp; omega⟩
        · show ∀ o, _ = _
          exact fun o => set8 (x := tuN x n) (y := (ocN (tuN x n) p q r s 4)) hca o
        · show ∀ o, _ = _
          intro o; simp [go_sem, hfa]
        · show ∀ o, _ = _
          intro o
          exact (set8_far (y := (ocN (tuN x n) p q r s 4)) (by omega) o).trans (hra.out o)
        · show ∀ o, _ = _
          intro o; simp [go_sem, hga.out]
        · show Below _ _ _
          have h := hBW.out
          repeat (first | with_reducible exact Below.refl _ _ | with_reducible assumption | ((with_reducible refine blA ?_ ?_); (focus (first | omega | (simp <;> omega)))) | (with_reducible refine blD ?_) | (with_reducible refine blN ?_) | ((with_reducible refine blS ?_ ?_); (focus (first | omega | (simp <;> omega)))) | ((with_reducible refine blT (by assumption) ?_ ?_); (focus (first | omega | (simp <;> omega)))))
      case round =>
        obtain ⟨m, hm, rfl, hc, hf, hro, hfo, hb, hz⟩ := hrel
        have hl0 : w.heap.size < wr.heap.size := by omega
        have hl2 : w.heap.size + 1 + 1 < wr.heap.size := by omega
        have hcr := hc.out
        have hfr := hf.out
        by_cases hlt : m + n < 3
        · go_wp2_with fail
          refine (cuTurn_any _ _ _ _ _ _ _ _ _).mono ?_
          rintro ex wb ⟨rfl, hBb⟩
          have hSb := hBb.size
          have hcb : ∀ o, wb.cell? ⟨w.heap.size, o, none⟩ = (#[.int .i64 (tuN (ocN (tuN x n) p q r s 4) m 0), .int .i64 (tuN (ocN (tuN x n) p q r s 4) m 1), .int .i64 (tuN (ocN (tuN x n) p q r s 4) m 2), .int .i64 (tuN (ocN (tuN x n) p q r s 4) m 3), .int .i64 (tuN (ocN (tuN x n) p q r s 4) m 4), .int .i64 (tuN (ocN (tuN x n) p q r s 4) m 5), .int .i64 (tuN (ocN (tuN x n) p q r s 4) m 6), .int .i64 (tuN (ocN (tuN x n) p q r s 4) m 7)] : Array Value)[o]? := fun o => by rw [bG hBb hl0, hcr]
          have hfb : ∀ o, wb.frozen? ⟨w.heap.size, o, none⟩ = false := fun o => by rw [fG hBb hl0, hfr]
          go_wp2
          go_roundw
          case rel =>
            go_light
            refine ⟨m + 1, by omega, by go_num, ?_, ?_, ?_, ?_, ?_, ?_⟩
            · show ∀ o, _ = _
              exact fun o => set8 (x := tuN (ocN (tuN x n) p q r s 4) m) (y := tuN (ocN (tuN x n) p q r s 4) (m + 1)) hcb o
            · show ∀ o, _ = _
              intro o; simp [go_sem, hfb]
            · show ∀ o, _ = _
              intro o
              refine (set8_far (y := tuN (ocN (tuN x n) p q r s 4) (m + 1)) (by omega) o).trans ?_
              rw [bG hBb hl2, hro.out]
            · show ∀ o, _ = _
              intro o; simp [go_sem, fG hBb hl2, hfo.out]
            · show Below _ _ _
              have h := hb.out
              repeat (first | with_reducible exact Below.refl _ _ | with_reducible assumption | ((with_reducible refine blA ?_ ?_); (focus (first | omega | (simp <;> omega)))) | (with_reducible refine blD ?_) | (with_reducible refine blN ?_) | ((with_reducible refine blS ?_ ?_); (focus (first | omega | (simp <;> omega)))) | ((with_reducible refine blT (by assumption) ?_ ?_); (focus (first | omega | (simp <;> omega)))))
            · simp; omega
          case measure => simp [intOf]; omega
        · have e1 : 3 - n = m := by omega
          have e0 : 4 - (n + 1) = m := by omega
          have e2 : n + 1 - 1 = n := by omega
          have hro' := hro.out
          have hfo' := hfo.out
          have hBr : Below w.heap.size w wr := hb.out
          go_wp2
          refine bodyPost_ret (v := .agg #[.int .i64 (tuN (ocN (tuN x n) p q r s 4) m 0), .int .i64 (tuN (ocN (tuN x n) p q r s 4) m 1), .int .i64 (tuN (ocN (tuN x n) p q r s 4) m 2), .int .i64 (tuN (ocN (tuN x n) p q r s 4) m 3), .int .i64 (tuN (ocN (tuN x n) p q r s 4) m 4), .int .i64 (tuN (ocN (tuN x n) p q r s 4) m 5), .int .i64 (tuN (ocN (tuN x n) p q r s 4) m 6), .int .i64 (tuN (ocN (tuN x n) p q r s 4) m 7)]) (by go_light; (try clear hC14); (try clear hF14); (try clear hB14); (try clear hC13); (try clear hF13); (try clear hB13); (try clear hC12); (try clear hF12); (try clear hB12); (try clear hC11); (try clear hF11); (try clear hB11); (try clear hC10); (try clear hF10); (try clear hB10); (try clear hC9); (try clear hF9); (try clear hB9); (try clear hC8); (try clear hF8); (try clear hB8); (try clear hC7); (try clear hF7); (try clear hB7); (try clear hC6); (try clear hF6); (try clear hB6); (try clear hC5); (try clear hF5); (try clear hB5); (try clear hC4); (try clear hF4); (try clear hB4); (try clear hC3); (try clear hF3); (try clear hB3); (try clear hC2); (try clear hF2); (try clear hB2); (try clear hC1); (try clear hF1); (try clear hB1); simp [results, Try.results49, go_sem, hcr, hro', e1]) rfl ⟨by go_light; rw [e2, e0], ?_⟩
          repeat (first | with_reducible exact Below.refl _ _ | with_reducible assumption | ((with_reducible refine blA ?_ ?_); (focus (first | omega | (simp <;> omega)))) | (with_reducible refine blD ?_) | (with_reducible refine blN ?_) | ((with_reducible refine blS ?_ ?_); (focus (first | omega | (simp <;> omega)))) | ((with_reducible refine blT (by assumption) ?_ ?_); (focus (first | omega | (simp <;> omega)))))
end Go.Proofs.Ytphmjehmeigmdaa
