/-
  Matrices that act on cubes: the program's way.
-/
import Derived.Test.YtphmjehmeigmdaaAct
namespace Go.Proofs.Ytphmjehmeigmdaa
open Go.RowKit
attribute [local simp, local go_sem] past_cell past_frozen past_tape
def actX (p r x y : Int) : Int := p * x - r * y
def actY (q s x y : Int) : Int := s * y - q * x
/-- The entries as the rounds fill them. -/
def rcN (x : Nat → Int) (P : Nat → Nat) (p q r s : Int) : Nat → Nat → Int
  | 0, o => x o
  | k + 1, o => if o = P (k + 4) then actY q s (x (P k)) (x (P (k + 4))) else if o = P k then actX p r (x (P k)) (x (P (k + 4))) else rcN x P p q r s k o
theorem eight {x : Nat → Int} {w : World} {b : Nat} (h : ∀ o, w.cell? ⟨b, o, none⟩ = (#[.int .i64 (x 0), .int .i64 (x 1), .int .i64 (x 2), .int .i64 (x 3), .int .i64 (x 4), .int .i64 (x 5), .int .i64 (x 6), .int .i64 (x 7)] : Array Value)[o]?) (o : Nat) (ho : o < 8) : w.cell? ⟨b, o, none⟩ = some (.int .i64 (x o)) := by
  rw [h]
  match o, ho with
  | 0, _ => rfl
  | 1, _ => rfl
  | 2, _ => rfl
  | 3, _ => rfl
  | 4, _ => rfl
  | 5, _ => rfl
  | 6, _ => rfl
  | 7, _ => rfl
theorem act_cells {w1 : World} {b i1 i2 : Nat} {c : Nat → Int} {X Y : Int} (h : ∀ o, o < 8 → w1.cell? ⟨b, o, none⟩ = some (.int .i64 (c o))) (h1 : i1 < 8) (h2 : i2 < 8) (o : Nat) (ho : o < 8) :
    ((w1.setCell ⟨b, i1, none⟩ (.int .i64 X)).setCell ⟨b, i2, none⟩ (.int .i64 Y)).cell? ⟨b, o, none⟩ = some (.int .i64 (if o = i2 then Y else if o = i1 then X else c o)) := by
  by_cases e2 : o = i2
  · subst e2
    rw [if_pos rfl]
    by_cases e1 : i1 = o
    · subst e1
      exact set_same _ _ _ _ _ (set_same _ _ _ _ _ (h _ h1))
    · exact set_same _ _ _ _ (.int .i64 (c o)) (by rw [set_other _ _ _ _ _ _ (Or.inr e1), h _ ho])
  · rw [if_neg e2, set_other _ _ _ _ _ _ (Or.inr fun e => e2 e.symm)]
    by_cases e1 : o = i1
    · subst e1
      rw [if_pos rfl]
      exact set_same _ _ _ _ _ (h _ h1)
    · rw [if_neg e1, set_other _ _ _ _ _ _ (Or.inr fun e => e1 e.symm), h _ ho]
set_option maxRecDepth 100000 in
set_option maxHeartbeats 4000000 in
theorem act_any (x : Nat → Int) (P : Nat → Nat) (i : Int) (p q r s : Int) (w : World) (hP : ∀ k, k < 8 → P k < 8) (hPI : ∀ k, k < 4 → P k ≠ P (k + 4)) (hx : ∀ k, B5 (x k)) (hp : Bd 1000000 p) (hq : Bd 1000000 q) (hr : Bd 1000000 r) (hs : Bd 1000000 s)
    (hcut : ∀ w1, Calls Try.prog 64 #[.int .i64 i] w1 fun en w' => en = .returned (.agg #[.int .i64 (P 0 : Int), .int .i64 (P 1 : Int), .int .i64 (P 2 : Int), .int .i64 (P 3 : Int), .int .i64 (P 4 : Int), .int .i64 (P 5 : Int), .int .i64 (P 6 : Int), .int .i64 (P 7 : Int)]) ∧ Below w1.heap.size w1 w') :
    Calls Try.prog 51 #[.agg #[.int .i64 (x 0), .int .i64 (x 1), .int .i64 (x 2), .int .i64 (x 3), .int .i64 (x 4), .int .i64 (x 5), .int .i64 (x 6), .int .i64 (x 7)], .int .i64 i, .agg #[.int .i64 p, .int .i64 q, .int .i64 r, .int .i64 s]] w fun en w' => en = .returned (.agg #[.int .i64 (rcN x P p q r s 4 0), .int .i64 (rcN x P p q r s 4 1), .int .i64 (rcN x P p q r s 4 2), .int .i64 (rcN x P p q r s 4 3), .int .i64 (rcN x P p q r s 4 4), .int .i64 (rcN x P p q r s 4 5), .int .i64 (rcN x P p q r s 4 6), .int .i64 (rcN x P p q r s 4 7)]) ∧ Below w.heap.size w w' := by
  have HCUT := Lib.hid hcut
  have HP := Lib.hid hP
  have HPI := Lib.hid hPI
  have HX := Lib.hid hx
  clear hcut hP hPI hx
  go_enter Try.func51, Try.ntmps51
  go_wp2_with fail
  refine (HCUT.out _).mono ?_
  rintro ex wa ⟨rfl, hBa⟩
  have hSa := hBa.size
  simp at hSa
  have hRe : ∀ o, wa.cell? ⟨w.heap.size, o, none⟩ = (#[.int .i64 (x 0), .int .i64 (x 1), .int .i64 (x 2), .int .i64 (x 3), .int .i64 (x 4), .int .i64 (x 5), .int .i64 (x 6), .int .i64 (x 7)] : Array Value)[o]? := by (intro o; (repeat (first | ((with_reducible refine (cell_alloc_old _ _ _ _ ?_).trans ?_); (focus (first | omega | (simp <;> omega)))) | ((with_reducible refine (bC (by assumption) ?_).trans ?_); (focus (first | omega | (simp <;> omega)))) | ((with_reducible refine (bG (by assumption) ?_).trans ?_); (focus (first | omega | (simp <;> omega)))))); simp [go_sem])
  have hRm : ∀ o, wa.cell? ⟨w.heap.size + 1, o, none⟩ = (#[.int .i64 p, .int .i64 q, .int .i64 r, .int .i64 s] : Array Value)[o]? := by (intro o; (repeat (first | ((with_reducible refine (cell_alloc_old _ _ _ _ ?_).trans ?_); (focus (first | omega | (simp <;> omega)))) | ((with_reducible refine (bC (by assumption) ?_).trans ?_); (focus (first | omega | (simp <;> omega)))) | ((with_reducible refine (bG (by assumption) ?_).trans ?_); (focus (first | omega | (simp <;> omega)))))); simp [go_sem])
  have hRo : ∀ o, wa.cell? ⟨w.heap.size + 1 + 1, o, none⟩ = (#[.int .i64 0, .int .i64 0, .int .i64 0, .int .i64 0, .int .i64 0, .int .i64 0, .int .i64 0, .int .i64 0] : Array Value)[o]? := by (intro o; (repeat (first | ((with_reducible refine (cell_alloc_old _ _ _ _ ?_).trans ?_); (focus (first | omega | (simp <;> omega)))) | ((with_reducible refine (bC (by assumption) ?_).trans ?_); (focus (first | omega | (simp <;> omega)))) | ((with_reducible refine (bG (by assumption) ?_).trans ?_); (focus (first | omega | (simp <;> omega)))))); simp [go_sem])
  have hRr : ∀ o, wa.cell? ⟨w.heap.size + 1 + 1 + 1, o, none⟩ = (#[.int .i64 (x 0), .int .i64 (x 1), .int .i64 (x 2), .int .i64 (x 3), .int .i64 (x 4), .int .i64 (x 5), .int .i64 (x 6), .int .i64 (x 7)] : Array Value)[o]? := by (intro o; (repeat (first | ((with_reducible refine (cell_alloc_old _ _ _ _ ?_).trans ?_); (focus (first | omega | (simp <;> omega)))) | ((with_reducible refine (bC (by assumption) ?_).trans ?_); (focus (first | omega | (simp <;> omega)))) | ((with_reducible refine (bG (by assumption) ?_).trans ?_); (focus (first | omega | (simp <;> omega)))))); simp [go_sem])
  have hFo : ∀ o, wa.frozen? ⟨w.heap.size + 1 + 1, o, none⟩ = false := by (intro o; (repeat (first | ((with_reducible refine (frozen_alloc_old _ _ _ _ ?_).trans ?_); (focus (first | omega | (simp <;> omega)))) | ((with_reducible refine (fG (by assumption) ?_).trans ?_); (focus (first | omega | (simp <;> omega)))))); simp [go_sem])
  have hFr : ∀ o, wa.frozen? ⟨w.heap.size + 1 + 1 + 1, o, none⟩ = false := by (intro o; (repeat (first | ((with_reducible refine (frozen_alloc_old _ _ _ _ ?_).trans ?_); (focus (first | omega | (simp <;> omega)))) | ((with_reducible refine (fG (by assumption) ?_).trans ?_); (focus (first | omega | (simp <;> omega)))))); simp [go_sem])
  have hW : Hid (Below w.heap.size w wa) := by show Below _ _ _; repeat (first | with_reducible exact Below.refl _ _ | with_reducible assumption | ((with_reducible refine blA ?_ ?_); (focus (first | omega | (simp <;> omega)))) | (with_reducible refine blD ?_) | (with_reducible refine blN ?_) | ((with_reducible refine blS ?_ ?_); (focus (first | omega | (simp <;> omega)))) | ((with_reducible refine blT (by assumption) ?_ ?_); (focus (first | omega | (simp <;> omega)))))
  have HO := Lib.hid hRo
  have HFO := Lib.hid hFo
  have HE := Lib.hid (eight hRe)
  have HR := Lib.hid (eight hRr)
  clear hBa hRo hFo hRe hRr
  go_wp2
  have hz0 : w.heap.size + 1 + 1 + 1 < wa.heap.size := by omega
  go_loopw [9] (fun i wr => ∃ k : Nat, k ≤ 4 ∧ i = .int .i64 (k : Int) ∧ Hid (∀ o, o < 8 → wr.cell? ⟨w.heap.size + 1 + 1 + 1, o, none⟩ = some (.int .i64 (rcN x P p q r s k o))) ∧ Hid (∀ o, wr.frozen? ⟨w.heap.size + 1 + 1 + 1, o, none⟩ = false) ∧ Hid (∀ b o, b ≠ w.heap.size + 1 + 1 + 1 → b < wa.heap.size + 1 → wr.cell? ⟨b, o, none⟩ = (wa.alloc (.cells #[.int .i64 (P 0 : Int), .int .i64 (P 1 : Int), .int .i64 (P 2 : Int), .int .i64 (P 3 : Int), .int .i64 (P 4 : Int), .int .i64 (P 5 : Int), .int .i64 (P 6 : Int), .int .i64 (P 7 : Int)] 48)).cell? ⟨b, o, none⟩) ∧ Hid (∀ o, wr.frozen? ⟨w.heap.size + 1 + 1, o, none⟩ = false) ∧ Hid (Below w.heap.size w wr) ∧ wa.heap.size + 1 ≤ wr.heap.size) (fun i _ => 4 - (intOf i).toNat)
  case atStart =>
    refine ⟨0, by omega, rfl, ?_, ?_, ?_, ?_, ?_, by simp⟩
    · show ∀ o, _ → _
      intro o ho; rw [cell_alloc_old _ _ _ _ hz0, HR.out o ho]; rfl
    · show ∀ o, _ = _
      intro o; rw [frozen_alloc_old _ _ _ _ hz0, hFr]
    · show ∀ b o, _ → _ → _
      intro b o _ _; rfl
    · show ∀ o, _ = _
      intro o; rw [frozen_alloc_old _ _ _ _ (by omega), HFO.out]
    · show Below _ _ _
      have h := hW.out
      repeat (first | with_reducible exact Below.refl _ _ | with_reducible assumption | ((with_reducible refine blA ?_ ?_); (focus (first | omega | (simp <;> omega)))) | (with_reducible refine blD ?_) | (with_reducible refine blN ?_) | ((with_reducible refine blS ?_ ?_); (focus (first | omega | (simp <;> omega)))) | ((with_reducible refine blT (by assumption) ?_ ?_); (focus (first | omega | (simp <;> omega)))))
  case round =>
    obtain ⟨k, hk, rfl, hc, hf, hoth, hfo, hb, hz⟩ := hrel
    have hl0 : w.heap.size < wr.heap.size := by omega
    have hl1 : w.heap.size + 1 < wr.heap.size := by omega
    have hl2 : w.heap.size + 1 + 1 < wr.heap.size := by omega
    have hl3 : w.heap.size + 1 + 1 + 1 < wr.heap.size := by omega
    have hl4 : wa.heap.size < wr.heap.size := by omega
    have hm : ∀ o, wr.cell? ⟨w.heap.size + 1, o, none⟩ = (#[.int .i64 p, .int .i64 q, .int .i64 r, .int .i64 s] : Array Value)[o]? := fun o => by rw [hoth.out _ _ (by omega) (by omega), cell_alloc_old _ _ _ _ (by omega), hRm]
    have he : Hid (∀ o, o < 8 → wr.cell? ⟨w.heap.size, o, none⟩ = some (.int .i64 (x o))) := by
      show ∀ o, _ → _
      intro o ho; rw [hoth.out _ _ (by omega) (by omega), cell_alloc_old _ _ _ _ (by omega), HE.out o ho]
    have hp8 : Hid (∀ o, o < 8 → wr.cell? ⟨wa.heap.size, o, none⟩ = some (.int .i64 (P o : Int))) := by
      show ∀ o, _ → _
      exact eight (x := fun o => (P o : Int)) fun o => by rw [hoth.out _ _ (by omega) (by omega)]; simp [go_sem]
    have hfr := hf.out
    have HZ := Lib.hid hz
    clear hz
    by_cases hk4 : k < 4
    · have hpk := hp8.out k (by omega)
      have hpk4 := hp8.out (k + 4) (by omega)
      have hi1 := HP.out k (by omega)
      have hi2 := HP.out (k + 4) (by omega)
      have hne := HPI.out k hk4
      have hne' := Ne.symm hne
      have hek := he.out _ hi1
      have hek4 := he.out _ hi2
      have hB1 := HX.out (P k)
      have hB2 := HX.out (P (k + 4))
      have hck := hc.out _ hi1
      have hck4 := hc.out _ hi2
      have hnext : Hid (∀ o, rcN x P p q r s (k + 1) o = if o = P (k + 4) then actY q s (x (P k)) (x (P (k + 4))) else if o = P k then actX p r (x (P k)) (x (P (k + 4))) else rcN x P p q r s k o) := by
        show ∀ o, _ = _
        intro o; rfl
      generalize P k = i1 at *
      generalize P (k + 4) = i2 at *
      generalize x i1 = X at *
      generalize x i2 = Y at *
      obtain ⟨a1, a2⟩ := mul_bd hp (show Bd 500 X from hB1) (show (1000000 : Int) * 500 ≤ 500000000 by decide)
      obtain ⟨a3, a4⟩ := mul_bd hr (show Bd 500 Y from hB2) (show (1000000 : Int) * 500 ≤ 500000000 by decide)
      obtain ⟨a5, a6⟩ := mul_bd hs (show Bd 500 Y from hB2) (show (1000000 : Int) * 500 ≤ 500000000 by decide)
      obtain ⟨a7, a8⟩ := mul_bd hq (show Bd 500 X from hB1) (show (1000000 : Int) * 500 ≤ 500000000 by decide)
      go_wp2_with fail
      refine wp_region_past (by kernel_rfl) (by kernel_rfl) ?_
      repeat (first | go_big_quiet_skip | (go_big_quiet_want; go_big_quiet_op; first | go_big_quiet_on | (apply Exists.intro; refine ⟨fun _ => ?_, ?_⟩; (focus (fail)); go_big_quiet_on)))
      refine wpQuiet_nil ?_
      intro w1 hw'
      have hB1 := past_below hw'
      clear hw'
      obtain ⟨hC1, hF1⟩ := bcell hB1
      have hS1 := hB1.size
      (try simp at hS1)
      (try have hS1_w0 : w.heap.size < w1.heap.size := by omega)
      (try have hS1_w1 : w.heap.size + 1 < w1.heap.size := by omega)
      (try have hS1_w2 : w.heap.size + 1 + 1 < w1.heap.size := by omega)
      (try have hS1_w3 : w.heap.size + 1 + 1 + 1 < w1.heap.size := by omega)
      (try have hS1_w4 : w.heap.size + 1 + 1 + 1 + 1 < w1.heap.size := by omega)
      have hcw : w1.cell? ⟨w.heap.size + 1 + 1 + 1, i1, none⟩ = some (.int .i64 (rcN x P p q r s k i1)) := by rw [hC1 _ _ hl3, hck]
      have hcw4 : w1.cell? ⟨w.heap.size + 1 + 1 + 1, i2, none⟩ = some (.int .i64 (rcN x P p q r s k i2)) := by rw [hC1 _ _ hl3, hck4]
      have hfw : ∀ o, w1.frozen? ⟨w.heap.size + 1 + 1 + 1, o, none⟩ = false := fun o => by rw [hF1 _ o hl3, hfr]
      go_wp2_with fail
      go_region
      go_wp2
      go_roundw
      case rel =>
        go_light
        refine ⟨k + 1, by omega, by go_num, ?_, ?_, ?_, ?_, ?_, ?_⟩
        · show ∀ o, _ → _
          intro o ho
          rw [World.cell?_drew, act_cells (c := rcN x P p q r s k) (fun o ho => by rw [hC1 _ _ hl3]; exact hc.out o ho) hi1 hi2 o ho, hnext.out]
          rfl
        · show ∀ o, _ = _
          intro o
          simp [go_sem, hfw]
        · show ∀ b o, _ → _ → _
          intro b o hb hlt
          rw [World.cell?_drew, set_other _ _ _ _ _ _ (Or.inl fun e => hb e.symm), set_other _ _ _ _ _ _ (Or.inl fun e => hb e.symm), hC1 _ _ (by have := HZ.out; omega), hoth.out _ _ hb hlt]
        · show ∀ o, _ = _
          intro o
          simp [go_sem, hF1 _ _ hl2, hfo.out]
        · show Below _ _ _
          have h := hb.out
          repeat (first | with_reducible exact Below.refl _ _ | with_reducible assumption | ((with_reducible refine blA ?_ ?_); (focus (first | omega | (simp <;> omega)))) | (with_reducible refine blD ?_) | (with_reducible refine blN ?_) | ((with_reducible refine blS ?_ ?_); (focus (first | omega | (simp <;> omega)))) | ((with_reducible refine blT (by assumption) ?_ ?_); (focus (first | omega | (simp <;> omega)))))
        · have := hB1.size
          have := HZ.out
          simp
          omega
      case measure => simp [intOf]; omega
    · have hk' : k = 4 := by omega
      subst hk'
      have hk0 := hc.out 0 (by omega)
      have hk1 := hc.out 1 (by omega)
      have hk2 := hc.out 2 (by omega)
      have hk3 := hc.out 3 (by omega)
      have hk4 := hc.out 4 (by omega)
      have hk5 := hc.out 5 (by omega)
      have hk6 := hc.out 6 (by omega)
      have hk7 := hc.out 7 (by omega)
      have hro : ∀ o, wr.cell? ⟨w.heap.size + 1 + 1, o, none⟩ = (#[.int .i64 0, .int .i64 0, .int .i64 0, .int .i64 0, .int .i64 0, .int .i64 0, .int .i64 0, .int .i64 0] : Array Value)[o]? := fun o => by rw [hoth.out _ _ (by omega) (by omega), cell_alloc_old _ _ _ _ (by omega), HO.out]
      have hfro := hfo.out
      have hBW : Below w.heap.size w wr := hb.out
      clear hm
      go_wp2
      refine bodyPost_ret (v := .agg #[.int .i64 (rcN x P p q r s 4 0), .int .i64 (rcN x P p q r s 4 1), .int .i64 (rcN x P p q r s 4 2), .int .i64 (rcN x P p q r s 4 3), .int .i64 (rcN x P p q r s 4 4), .int .i64 (rcN x P p q r s 4 5), .int .i64 (rcN x P p q r s 4 6), .int .i64 (rcN x P p q r s 4 7)]) (by go_light; (try clear hC14); (try clear hF14); (try clear hB14); (try clear hC13); (try clear hF13); (try clear hB13); (try clear hC12); (try clear hF12); (try clear hB12); (try clear hC11); (try clear hF11); (try clear hB11); (try clear hC10); (try clear hF10); (try clear hB10); (try clear hC9); (try clear hF9); (try clear hB9); (try clear hC8); (try clear hF8); (try clear hB8); (try clear hC7); (try clear hF7); (try clear hB7); (try clear hC6); (try clear hF6); (try clear hB6); (try clear hC5); (try clear hF5); (try clear hB5); (try clear hC4); (try clear hF4); (try clear hB4); (try clear hC3); (try clear hF3); (try clear hB3); (try clear hC2); (try clear hF2); (try clear hB2); (try clear hC1); (try clear hF1); (try clear hB1); simp [results, Try.results51, go_sem, hro]) rfl ⟨rfl, ?_⟩
      repeat (first | with_reducible exact Below.refl _ _ | with_reducible assumption | ((with_reducible refine blA ?_ ?_); (focus (first | omega | (simp <;> omega)))) | (with_reducible refine blD ?_) | (with_reducible refine blN ?_) | ((with_reducible refine blS ?_ ?_); (focus (first | omega | (simp <;> omega)))) | ((with_reducible refine blT (by assumption) ?_ ?_); (focus (first | omega | (simp <;> omega)))))
end Go.Proofs.Ytphmjehmeigmdaa
