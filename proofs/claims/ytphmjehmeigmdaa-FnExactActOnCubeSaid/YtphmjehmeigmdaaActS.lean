/-
  Matrices that act on cubes: the reference's way.
-/
import Derived.Test.YtphmjehmeigmdaaAct
import Derived.Deep.AppendLies
import Derived.OwnWalk
namespace Go.Proofs.Ytphmjehmeigmdaa
open Go.RowKit
attribute [local simp, local go_sem] past_cell past_frozen past_tape
def fX (p r x y : Int) : Int := p * x - r * y
def fY (q s x y : Int) : Int := s * y - q * x
/-- The list as the rounds fill it. -/
def ocN (x : Nat → Int) (p q r s : Int) : Nat → Nat → Int
  | 0, _ => 0
  | k + 1, o => if o = 4 + k then fY q s (x k) (x (4 + k)) else if o = k then fX p r (x k) (x (4 + k)) else ocN x p q r s k o
theorem mk8 : (madeCells (Value.int .i64 0).cells (8 * 1)).toList = [.int .i64 0, .int .i64 0, .int .i64 0, .int .i64 0, .int .i64 0, .int .i64 0, .int .i64 0, .int .i64 0] := by kernel_rfl
theorem eightS {x : Nat → Int} {w : World} {b : Nat} (h : ∀ o, w.cell? ⟨b, o, none⟩ = (#[.int .i64 (x 0), .int .i64 (x 1), .int .i64 (x 2), .int .i64 (x 3), .int .i64 (x 4), .int .i64 (x 5), .int .i64 (x 6), .int .i64 (x 7)] : Array Value)[o]?) (o : Nat) (ho : o < 8) : w.cell? ⟨b, o, none⟩ = some (.int .i64 (x o)) := by
  rw [h]
  match o, ho with
  | 0, _ => rfl
  | 1, _ => rfl
  | 2, _ => rfl
  | 3, _ => rfl
  | 4, _ => rfl
  | 5, _ => rfl
  | 6, _ => rfl
  | 7, _ => rfl
theorem set_cells {w1 : World} {b i : Nat} {c : Nat → Int} {X : Int} (h : ∀ o, o < 8 → w1.cell? ⟨b, o, none⟩ = some (.int .i64 (c o))) (h1 : i < 8) (o : Nat) (ho : o < 8) :
    (w1.setCell ⟨b, i, none⟩ (.int .i64 X)).cell? ⟨b, o, none⟩ = some (.int .i64 (if o = i then X else c o)) := by
  by_cases e1 : o = i
  · subst e1
    rw [if_pos rfl]
    exact set_same _ _ _ _ _ (h _ h1)
  · rw [if_neg e1, set_other _ _ _ _ _ _ (Or.inr fun e => e1 e.symm), h _ ho]
theorem cuOf_any (x : Nat → Int) (g c : Nat) (w : World) (hg : g < w.heap.size) (hc : ∀ o, o < 8 → w.cell? ⟨g, o, none⟩ = some (.int .i64 (x o))) :
    Calls Try.prog 67 #[.slice (some ⟨g, 0, none⟩) 8 c] w fun en w' => en = .returned (.agg #[.int .i64 (x 0), .int .i64 (x 1), .int .i64 (x 2), .int .i64 (x 3), .int .i64 (x 4), .int .i64 (x 5), .int .i64 (x 6), .int .i64 (x 7)]) ∧ Below w.heap.size w w' := by
  have hk0 := hc 0 (by omega)
  have hk1 := hc 1 (by omega)
  have hk2 := hc 2 (by omega)
  have hk3 := hc 3 (by omega)
  have hk4 := hc 4 (by omega)
  have hk5 := hc 5 (by omega)
  have hk6 := hc 6 (by omega)
  have hk7 := hc 7 (by omega)
  have hn : ¬ g = w.heap.size := by omega
  clear hc
  go_enter Try.func67, Try.ntmps67
  go_wp2_with fail
  refine wp_region_past_tail 25 (by kernel_rfl) (by kernel_rfl) ?_
  simp only [List.take_succ_cons, List.take_zero, List.drop_succ_cons, List.drop_zero]
  repeat (first | go_big_quiet_skip | (go_big_quiet_want; go_big_quiet_op; first | go_big_quiet_on | (apply Exists.intro; refine ⟨fun _ => ?_, ?_⟩; (focus (fail)); go_big_quiet_on)))
  refine wpQuiet_nil ?_
  intro w1 hw'
  have hB1 := past_below hw'
  clear hw'
  obtain ⟨hC1, hF1⟩ := bcell hB1
  have hS1 := hB1.size
  (try simp at hS1)
  (try have hS1_w0 : w.heap.size < w1.heap.size := by omega)
  (try have hS1_w1 : w.heap.size + 1 < w1.heap.size := by omega)
  (try have hS1_w2 : w.heap.size + 1 + 1 < w1.heap.size := by omega)
  (try have hS1_w3 : w.heap.size + 1 + 1 + 1 < w1.heap.size := by omega)
  (try have hS1_w4 : w.heap.size + 1 + 1 + 1 + 1 < w1.heap.size := by omega)
  go_wp2
  (refine bodyPost_ret (v := .agg #[.int .i64 (x 0), .int .i64 (x 1), .int .i64 (x 2), .int .i64 (x 3), .int .i64 (x 4), .int .i64 (x 5), .int .i64 (x 6), .int .i64 (x 7)]) ?_ rfl ⟨?_, ?_⟩; (focus (go_light; first | (simp [results, Try.results67, go_sem, *]; done) | (simp (disch := first | omega | (simp <;> omega) | (refine isSome_of ?_ ?_; (focus ((repeat (first | ((with_reducible refine (cell_alloc_old _ _ _ _ ?_).trans ?_); (focus (first | omega | (simp <;> omega)))) | ((with_reducible refine (bG (by assumption) ?_).trans ?_); (focus (first | omega | (simp <;> omega)))))); exact rfl)); simp [go_sem]) | fail) [results, Try.results67, go_sem, *]; done))); (focus (rfl)); repeat (first | with_reducible exact Below.refl _ _ | with_reducible assumption | ((with_reducible refine blA ?_ ?_); (focus (first | omega | (simp <;> omega)))) | (with_reducible refine blD ?_) | (with_reducible refine blN ?_) | ((with_reducible refine blS ?_ ?_); (focus (first | omega | (simp <;> omega)))) | ((with_reducible refine blT (by assumption) ?_ ?_); (focus (first | omega | (simp <;> omega))))))
set_option maxRecDepth 100000 in
set_option maxHeartbeats 4000000 in
theorem cuFirst_any (x : Nat → Int) (p q r s : Int) (w : World) (hx : ∀ k, B5 (x k)) (hp : Bd 1000000 p) (hq : Bd 1000000 q) (hr : Bd 1000000 r) (hs : Bd 1000000 s) :
    Calls Try.prog 62 #[.agg #[.int .i64 (x 0), .int .i64 (x 1), .int .i64 (x 2), .int .i64 (x 3), .int .i64 (x 4), .int .i64 (x 5), .int .i64 (x 6), .int .i64 (x 7)], .agg #[.int .i64 p, .int .i64 q, .int .i64 r, .int .i64 s]] w fun en w' => en = .returned (.agg #[.int .i64 (ocN x p q r s 4 0), .int .i64 (ocN x p q r s 4 1), .int .i64 (ocN x p q r s 4 2), .int .i64 (ocN x p q r s 4 3), .int .i64 (ocN x p q r s 4 4), .int .i64 (ocN x p q r s 4 5), .int .i64 (ocN x p q r s 4 6), .int .i64 (ocN x p q r s 4 7)]) ∧ Below w.heap.size w w' := by
  have HX := Lib.hid hx
  clear hx
  go_enter Try.func62, Try.ntmps62
  go_wp2_with fail
  refine (cuList_any _ _ _ _ _ _ _ _ _).mono ?_
  rintro ex wb ⟨wa, hBa, rfl, rfl⟩
  have hSa := hBa.size
  simp at hSa
  have hRm : ∀ o, wa.cell? ⟨w.heap.size + 1, o, none⟩ = (#[.int .i64 p, .int .i64 q, .int .i64 r, .int .i64 s] : Array Value)[o]? := by (intro o; (repeat (first | ((with_reducible refine (cell_alloc_old _ _ _ _ ?_).trans ?_); (focus (first | omega | (simp <;> omega)))) | ((with_reducible refine (bC (by assumption) ?_).trans ?_); (focus (first | omega | (simp <;> omega)))) | ((with_reducible refine (bG (by assumption) ?_).trans ?_); (focus (first | omega | (simp <;> omega)))))); simp [go_sem])
  have hRo : ∀ o, wa.cell? ⟨w.heap.size + 1 + 1, o, none⟩ = (#[.int .i64 0, .int .i64 0, .int .i64 0, .int .i64 0, .int .i64 0, .int .i64 0, .int .i64 0, .int .i64 0] : Array Value)[o]? := by (intro o; (repeat (first | ((with_reducible refine (cell_alloc_old _ _ _ _ ?_).trans ?_); (focus (first | omega | (simp <;> omega)))) | ((with_reducible refine (bC (by assumption) ?_).trans ?_); (focus (first | omega | (simp <;> omega)))) | ((with_reducible refine (bG (by assumption) ?_).trans ?_); (focus (first | omega | (simp <;> omega)))))); simp [go_sem])
  have hFo : ∀ o, wa.frozen? ⟨w.heap.size + 1 + 1, o, none⟩ = false := by (intro o; (repeat (first | ((with_reducible refine (frozen_alloc_old _ _ _ _ ?_).trans ?_); (focus (first | omega | (simp <;> omega)))) | ((with_reducible refine (fG (by assumption) ?_).trans ?_); (focus (first | omega | (simp <;> omega)))))); simp [go_sem])
  have hW : Hid (Below w.heap.size w wa) := by show Below _ _ _; repeat (first | with_reducible exact Below.refl _ _ | with_reducible assumption | ((with_reducible refine blA ?_ ?_); (focus (first | omega | (simp <;> omega)))) | (with_reducible refine blD ?_) | (with_reducible refine blN ?_) | ((with_reducible refine blS ?_ ?_); (focus (first | omega | (simp <;> omega)))) | ((with_reducible refine blT (by assumption) ?_ ?_); (focus (first | omega | (simp <;> omega)))))
  have HO := Lib.hid hRo
  have HFO := Lib.hid hFo
  clear hBa hRo hFo
  obtain ⟨i, hi1, hiz, hisz, hiby⟩ := info_parts (P := Try.prog) (e := 3) (z := .int .i64 0) (size := 1) (bytes := 8) (by kernel_rfl)
  go_wp2_with (at_make; refine wpList_make_full _ rfl _ _ _ rfl (wa.heap.size + 1) 3 i (.int .i64 0) 1 (by kernel_rfl) hi1 hiz hisz .i64 .i64 8 8 8 rfl rfl rfl rfl (by rw [hiby]; decide) (by decide) (by simp) ?_; intro wm hown hgrow)
  have hgsz : (wa.alloc (.cells #[.int .i64 (x 0), .int .i64 (x 1), .int .i64 (x 2), .int .i64 (x 3), .int .i64 (x 4), .int .i64 (x 5), .int .i64 (x 6), .int .i64 (x 7)] 3)).heap.size = wa.heap.size + 1 := by simp
  rw [hgsz] at hown
  have hmk : Hid (∀ o, o < 8 → wm.cell? ⟨wa.heap.size + 1, o, none⟩ = some (.int .i64 0)) := by
    show ∀ o, _ → _
    intro o ho
    rw [hown.cellAt o (by omega), mk8]
    match o, ho with
    | 0, _ => rfl
    | 1, _ => rfl
    | 2, _ => rfl
    | 3, _ => rfl
    | 4, _ => rfl
    | 5, _ => rfl
    | 6, _ => rfl
    | 7, _ => rfl
  have hmf : Hid (∀ o, wm.frozen? ⟨wa.heap.size + 1, o, none⟩ = false) := fun o => hown.frozenAt o
  have hmo : Hid (∀ b o, b < wa.heap.size + 1 → wm.cell? ⟨b, o, none⟩ = (wa.alloc (.cells #[.int .i64 (x 0), .int .i64 (x 1), .int .i64 (x 2), .int .i64 (x 3), .int .i64 (x 4), .int .i64 (x 5), .int .i64 (x 6), .int .i64 (x 7)] 3)).cell? ⟨b, o, none⟩) := fun b o hb => hgrow.cell_far _ (by simpa using hb) (by simp)
  have hmg : Hid (∀ o, wm.frozen? ⟨w.heap.size + 1 + 1, o, none⟩ = false) := by
    show ∀ o, _ = _
    intro o
    rw [hgrow.frozen_far _ (by simp; omega) (by simp), frozen_alloc_old _ _ _ _ (by omega), HFO.out]
  have hmz : wa.heap.size + 1 + 1 ≤ wm.heap.size := by
    have := hown.lt _ rfl
    omega
  have hmb : Hid (Below w.heap.size w wm) := by
    show Below _ _ _
    have h := hW.out
    exact Below.grown (h.alloc (by omega) _) hgrow (by simp; omega) (fun k hk => by cases hk)
  clear hown hgrow hgsz
  go_wp2
  go_loopw [7] (fun i wr => ∃ k : Nat, k ≤ 4 ∧ i = .int .i64 (k : Int) ∧ Hid (∀ o, o < 8 → wr.cell? ⟨wa.heap.size + 1, o, none⟩ = some (.int .i64 (ocN x p q r s k o))) ∧ Hid (∀ o, wr.frozen? ⟨wa.heap.size + 1, o, none⟩ = false) ∧ Hid (∀ b o, b < wa.heap.size + 1 → wr.cell? ⟨b, o, none⟩ = (wa.alloc (.cells #[.int .i64 (x 0), .int .i64 (x 1), .int .i64 (x 2), .int .i64 (x 3), .int .i64 (x 4), .int .i64 (x 5), .int .i64 (x 6), .int .i64 (x 7)] 3)).cell? ⟨b, o, none⟩) ∧ Hid (∀ o, wr.frozen? ⟨w.heap.size + 1 + 1, o, none⟩ = false) ∧ Hid (Below w.heap.size w wr) ∧ wa.heap.size + 1 + 1 ≤ wr.heap.size) (fun i _ => 4 - (intOf i).toNat)
  case atStart =>
    exact ⟨0, by omega, rfl, hmk.out, hmf.out, hmo.out, hmg.out, hmb.out, hmz⟩
  case round =>
    obtain ⟨k, hk, rfl, hc, hf, hoth, hfo, hb, hz⟩ := hrel
    have hl0 : w.heap.size < wr.heap.size := by omega
    have hl1 : w.heap.size + 1 < wr.heap.size := by omega
    have hl2 : w.heap.size + 1 + 1 < wr.heap.size := by omega
    have hl3 : wa.heap.size < wr.heap.size := by omega
    have hl4 : wa.heap.size + 1 < wr.heap.size := by omega
    have hm : ∀ o, wr.cell? ⟨w.heap.size + 1, o, none⟩ = (#[.int .i64 p, .int .i64 q, .int .i64 r, .int .i64 s] : Array Value)[o]? := fun o => by rw [hoth.out _ _ (by omega), cell_alloc_old _ _ _ _ (by omega), hRm]
    have he : Hid (∀ o, o < 8 → wr.cell? ⟨wa.heap.size, o, none⟩ = some (.int .i64 (x o))) := by
      show ∀ o, _ → _
      exact eightS fun o => by rw [hoth.out _ _ (by omega)]; simp [go_sem]
    have hfr := hf.out
    have HZ := Lib.hid hz
    clear hz
    by_cases hk4 : k < 4
    · have hek := he.out k (by omega)
      have hek4 := he.out (4 + k) (by omega)
      have hB1 := HX.out k
      have hB2 := HX.out (4 + k)
      have hck := hc.out k (by omega)
      have hck4 := hc.out (4 + k) (by omega)
      have hnext : Hid (∀ o, ocN x p q r s (k + 1) o = if o = 4 + k then fY q s (x k) (x (4 + k)) else if o = k then fX p r (x k) (x (4 + k)) else ocN x p q r s k o) := by
        show ∀ o, _ = _
        intro o; rfl
      generalize hXX : x k = X at *
      generalize hYY : x (4 + k) = Y at *
      obtain ⟨a1, a2⟩ := mul_bd hp (show Bd 500 X from hB1) (show (1000000 : Int) * 500 ≤ 500000000 by decide)
      obtain ⟨a3, a4⟩ := mul_bd hr (show Bd 500 Y from hB2) (show (1000000 : Int) * 500 ≤ 500000000 by decide)
      obtain ⟨a5, a6⟩ := mul_bd hs (show Bd 500 Y from hB2) (show (1000000 : Int) * 500 ≤ 500000000 by decide)
      obtain ⟨a7, a8⟩ := mul_bd hq (show Bd 500 X from hB1) (show (1000000 : Int) * 500 ≤ 500000000 by decide)
      go_wp2_with fail
      refine wp_region_past_tail 19 (by kernel_rfl) (by kernel_rfl) ?_
      simp only [List.take_succ_cons, List.take_zero, List.drop_succ_cons, List.drop_zero]
      repeat (first | go_big_quiet_skip | (go_big_quiet_want; go_big_quiet_op; first | go_big_quiet_on | (apply Exists.intro; refine ⟨fun _ => ?_, ?_⟩; (focus (fail)); go_big_quiet_on)))
      refine wpQuiet_nil ?_
      intro w1 hw'
      have hB1 := past_below hw'
      clear hw'
      obtain ⟨hC1, hF1⟩ := bcell hB1
      have hS1 := hB1.size
      (try simp at hS1)
      (try have hS1_w0 : w.heap.size < w1.heap.size := by omega)
      (try have hS1_w1 : w.heap.size + 1 < w1.heap.size := by omega)
      (try have hS1_w2 : w.heap.size + 1 + 1 < w1.heap.size := by omega)
      (try have hS1_w3 : w.heap.size + 1 + 1 + 1 < w1.heap.size := by omega)
      (try have hS1_w4 : w.heap.size + 1 + 1 + 1 + 1 < w1.heap.size := by omega)
      go_wp2_with fail
      have hS1 := hB1.size
      have hq0 : wa.heap.size + 1 < w1.heap.size := by omega
      have hq1 : wa.heap.size < w1.heap.size := by omega
      have hq2 : w.heap.size + 1 < w1.heap.size := by omega
      have hcw : Hid (∀ o, o < 8 → (w1.setCell ⟨wa.heap.size + 1, k, none⟩ (.int .i64 (p * X - r * Y))).cell? ⟨wa.heap.size + 1, o, none⟩ = some (.int .i64 (if o = k then p * X - r * Y else ocN x p q r s k o))) := by
        show ∀ o, _ → _
        intro o ho
        exact set_cells (c := ocN x p q r s k) (fun o ho => by rw [hC1 _ _ hl4]; exact hc.out o ho) (by omega) o ho
      have hcw4 := hcw.out (4 + k) (by omega)
      have hfw : ∀ o, (w1.setCell ⟨wa.heap.size + 1, k, none⟩ (.int .i64 (p * X - r * Y))).frozen? ⟨wa.heap.size + 1, o, none⟩ = false := fun o => by simp [go_sem, hF1 _ _ hl4, hfr]
      have hmw : ∀ o, (w1.setCell ⟨wa.heap.size + 1, k, none⟩ (.int .i64 (p * X - r * Y))).cell? ⟨w.heap.size + 1, o, none⟩ = (#[.int .i64 p, .int .i64 q, .int .i64 r, .int .i64 s] : Array Value)[o]? := fun o => by rw [set_other _ _ _ _ _ _ (by omega), hC1 _ _ hl1, hm]
      have hew : (w1.setCell ⟨wa.heap.size + 1, k, none⟩ (.int .i64 (p * X - r * Y))).cell? ⟨wa.heap.size, k, none⟩ = some (.int .i64 X) := by rw [set_other _ _ _ _ _ _ (by omega), hC1 _ _ hl3, hek]
      have hew4 : (w1.setCell ⟨wa.heap.size + 1, k, none⟩ (.int .i64 (p * X - r * Y))).cell? ⟨wa.heap.size, 4 + k, none⟩ = some (.int .i64 Y) := by rw [set_other _ _ _ _ _ _ (by omega), hC1 _ _ hl3, hek4]
      refine wp_region_past_tail 20 (by kernel_rfl) (by kernel_rfl) ?_
      simp only [List.take_succ_cons, List.take_zero, List.drop_succ_cons, List.drop_zero]
      repeat (first | go_big_quiet_skip | (go_big_quiet_want; go_big_quiet_op; first | go_big_quiet_on | (apply Exists.intro; refine ⟨fun _ => ?_, ?_⟩; (focus (fail)); go_big_quiet_on)))
      refine wpQuiet_nil ?_
      intro w2 hw'
      have hB2 := past_below hw'
      clear hw'
      obtain ⟨hC2, hF2⟩ := bcell hB2
      have hS2 := hB2.size
      (try simp at hS2)
      (try have hS2_w0 : w.heap.size < w2.heap.size := by omega)
      (try have hS2_w1 : w.heap.size + 1 < w2.heap.size := by omega)
      (try have hS2_w2 : w.heap.size + 1 + 1 < w2.heap.size := by omega)
      (try have hS2_w3 : w.heap.size + 1 + 1 + 1 < w2.heap.size := by omega)
      (try have hS2_w4 : w.heap.size + 1 + 1 + 1 + 1 < w2.heap.size := by omega)
      (try have hS2_1 : w1.heap.size < w2.heap.size := by omega)
      (try have hS2_1' : w1.heap.size + 1 < w2.heap.size := by omega)
      go_wp2
      go_roundw
      case rel =>
        go_light
        refine ⟨k + 1, by omega, by go_num, ?_, ?_, ?_, ?_, ?_, ?_⟩
        · show ∀ o, _ → _
          intro o ho
          rw [set_cells (c := fun o => if o = k then p * X - r * Y else ocN x p q r s k o) (fun o ho => by rw [hC2 _ _ (by simpa using hq0)]; exact hcw.out o ho) (by omega) o ho, hnext.out]
          rfl
        · show ∀ o, _ = _
          intro o
          simp [go_sem, hF2 _ _ (show wa.heap.size + 1 < (w1.setCell ⟨wa.heap.size + 1, k, none⟩ (.int .i64 (p * X - r * Y))).heap.size by simpa using hq0), hF1 _ _ hl4, hfr]
        · show ∀ b o, _ → _
          intro b o hb
          rw [set_other _ _ _ _ _ _ (Or.inl (by omega)), hC2 _ _ (by simp; omega), set_other _ _ _ _ _ _ (Or.inl (by omega)), hC1 _ _ (by omega), hoth.out _ _ hb]
        · show ∀ o, _ = _
          intro o
          have hq3 : w.heap.size + 1 + 1 < w1.heap.size := by omega
          simp [go_sem, hF2 _ _ (show w.heap.size + 1 + 1 < (w1.setCell ⟨wa.heap.size + 1, k, none⟩ (.int .i64 (p * X - r * Y))).heap.size by simpa using hq3), hF1 _ _ hl2, hfo.out]
        · show Below _ _ _
          have h := hb.out
          repeat (first | with_reducible exact Below.refl _ _ | with_reducible assumption | ((with_reducible refine blA ?_ ?_); (focus (first | omega | (simp <;> omega)))) | (with_reducible refine blD ?_) | (with_reducible refine blN ?_) | ((with_reducible refine blS ?_ ?_); (focus (first | omega | (simp <;> omega)))) | ((with_reducible refine blT (by assumption) ?_ ?_); (focus (first | omega | (simp <;> omega)))))
        · have := hB2.size
          simp at this
          simp
          omega
      case measure => simp [intOf]; omega
    · have hk' : k = 4 := by omega
      subst hk'
      have hro : ∀ o, wr.cell? ⟨w.heap.size + 1 + 1, o, none⟩ = (#[.int .i64 0, .int .i64 0, .int .i64 0, .int .i64 0, .int .i64 0, .int .i64 0, .int .i64 0, .int .i64 0] : Array Value)[o]? := fun o => by rw [hoth.out _ _ (by omega), cell_alloc_old _ _ _ _ (by omega), HO.out]
      have hfro := hfo.out
      have hBr : Below w.heap.size w wr := hb.out
      go_wp2_with fail
      refine (cuOf_any (ocN x p q r s 4) _ _ _ hl4 hc.out).mono ?_
      rintro ex wz ⟨rfl, hBz⟩
      have hSz := hBz.size
      have hrz : ∀ o, wz.cell? ⟨w.heap.size + 1 + 1, o, none⟩ = (#[.int .i64 0, .int .i64 0, .int .i64 0, .int .i64 0, .int .i64 0, .int .i64 0, .int .i64 0, .int .i64 0] : Array Value)[o]? := fun o => by rw [bG hBz hl2, hro]
      have hfz : ∀ o, wz.frozen? ⟨w.heap.size + 1 + 1, o, none⟩ = false := fun o => by rw [fG hBz hl2, hfro]
      have hBW : Below w.heap.size w wz := by repeat (first | with_reducible exact Below.refl _ _ | with_reducible assumption | ((with_reducible refine blA ?_ ?_); (focus (first | omega | (simp <;> omega)))) | (with_reducible refine blD ?_) | (with_reducible refine blN ?_) | ((with_reducible refine blS ?_ ?_); (focus (first | omega | (simp <;> omega)))) | ((with_reducible refine blT (by assumption) ?_ ?_); (focus (first | omega | (simp <;> omega)))))
      clear hBz hBr hm hro hfro
      go_wp2
      refine bodyPost_ret (v := .agg #[.int .i64 (ocN x p q r s 4 0), .int .i64 (ocN x p q r s 4 1), .int .i64 (ocN x p q r s 4 2), .int .i64 (ocN x p q r s 4 3), .int .i64 (ocN x p q r s 4 4), .int .i64 (ocN x p q r s 4 5), .int .i64 (ocN x p q r s 4 6), .int .i64 (ocN x p q r s 4 7)]) (by go_light; (try clear hC14); (try clear hF14); (try clear hB14); (try clear hC13); (try clear hF13); (try clear hB13); (try clear hC12); (try clear hF12); (try clear hB12); (try clear hC11); (try clear hF11); (try clear hB11); (try clear hC10); (try clear hF10); (try clear hB10); (try clear hC9); (try clear hF9); (try clear hB9); (try clear hC8); (try clear hF8); (try clear hB8); (try clear hC7); (try clear hF7); (try clear hB7); (try clear hC6); (try clear hF6); (try clear hB6); (try clear hC5); (try clear hF5); (try clear hB5); (try clear hC4); (try clear hF4); (try clear hB4); (try clear hC3); (try clear hF3); (try clear hB3); (try clear hC2); (try clear hF2); (try clear hB2); (try clear hC1); (try clear hF1); (try clear hB1); simp [results, Try.results62, go_sem, hrz]) rfl ⟨rfl, ?_⟩
      repeat (first | with_reducible exact Below.refl _ _ | with_reducible assumption | ((with_reducible refine blA ?_ ?_); (focus (first | omega | (simp <;> omega)))) | (with_reducible refine blD ?_) | (with_reducible refine blN ?_) | ((with_reducible refine blS ?_ ?_); (focus (first | omega | (simp <;> omega)))) | ((with_reducible refine blT (by assumption) ?_ ?_); (focus (first | omega | (simp <;> omega)))))
end Go.Proofs.Ytphmjehmeigmdaa
