/-
  ParseCube, both ways.
-/
import Derived.Test.YtlfbanoabipacaaDoorInt
import Derived.Lib.SlicesS
namespace Go.Proofs.YtlfbanoabipacaaDoor
open Go.RowKit
attribute [local simp, local go_sem] past_cell past_frozen past_tape
theorem cuOfL_any (x : Nat → Int) (g c : Nat) (w : World) (hg : g < w.heap.size) (hc : ∀ o, o < 8 → w.cell? ⟨g, o, none⟩ = some (.int .i64 (x o))) :
    Calls Tryd.prog 28 #[.slice (some ⟨g, 0, none⟩) 8 c] w fun en w' => en = .returned (.agg #[.int .i64 (x 0), .int .i64 (x 1), .int .i64 (x 2), .int .i64 (x 3), .int .i64 (x 4), .int .i64 (x 5), .int .i64 (x 6), .int .i64 (x 7)]) ∧ Below w.heap.size w w' := by
  have hk0 := hc 0 (by omega)
  have hk1 := hc 1 (by omega)
  have hk2 := hc 2 (by omega)
  have hk3 := hc 3 (by omega)
  have hk4 := hc 4 (by omega)
  have hk5 := hc 5 (by omega)
  have hk6 := hc 6 (by omega)
  have hk7 := hc 7 (by omega)
  have hn : ¬ g = w.heap.size := by omega
  clear hc
  go_enter Tryd.func28, Tryd.ntmps28
  go_wp2_with fail
  refine wp_region_past_tail 25 (by kernel_rfl) (by kernel_rfl) ?_
  simp only [List.take_succ_cons, List.take_zero, List.drop_succ_cons, List.drop_zero]
  repeat (first | go_big_quiet_skip | (go_big_quiet_want; go_big_quiet_op; first | go_big_quiet_on | (apply Exists.intro; refine ⟨fun _ => ?_, ?_⟩; (focus (fail)); go_big_quiet_on)))
  refine wpQuiet_nil ?_
  intro w1 hw'
  have hB1 := past_below hw'
  clear hw'
  obtain ⟨hC1, hF1⟩ := bcell hB1
  have hS1 := hB1.size
  (try simp at hS1)
  (try have hS1_w0 : w.heap.size < w1.heap.size := by omega)
  (try have hS1_w1 : w.heap.size + 1 < w1.heap.size := by omega)
  (try have hS1_w2 : w.heap.size + 1 + 1 < w1.heap.size := by omega)
  (try have hS1_w3 : w.heap.size + 1 + 1 + 1 < w1.heap.size := by omega)
  (try have hS1_w4 : w.heap.size + 1 + 1 + 1 + 1 < w1.heap.size := by omega)
  go_wp2
  (refine bodyPost_ret (v := .agg #[.int .i64 (x 0), .int .i64 (x 1), .int .i64 (x 2), .int .i64 (x 3), .int .i64 (x 4), .int .i64 (x 5), .int .i64 (x 6), .int .i64 (x 7)]) ?_ rfl ⟨?_, ?_⟩; (focus (go_light; first | (simp [results, Tryd.results28, go_sem, *]; done) | (simp (disch := first | omega | (simp <;> omega) | (refine isSome_of ?_ ?_; (focus ((repeat (first | ((with_reducible refine (cell_alloc_old _ _ _ _ ?_).trans ?_); (focus (first | omega | (simp <;> omega)))) | ((with_reducible refine (bG (by assumption) ?_).trans ?_); (focus (first | omega | (simp <;> omega)))))); exact rfl)); simp [go_sem]) | fail) [results, Tryd.results28, go_sem, *]; done))); (focus (rfl)); repeat (first | with_reducible exact Below.refl _ _ | with_reducible assumption | ((with_reducible refine blA ?_ ?_); (focus (first | omega | (simp <;> omega)))) | (with_reducible refine blD ?_) | (with_reducible refine blN ?_) | ((with_reducible refine blS ?_ ?_); (focus (first | omega | (simp <;> omega)))) | ((with_reducible refine blT (by assumption) ?_ ?_); (focus (first | omega | (simp <;> omega))))))
/-- Whether a text is one of a cube, and its entries. -/
def pcB (l : List UInt8) : Bool := decide ((fiL l 32 8).length = 8) && (fiL l 32 8).all in500
def pcX (l : List UInt8) (k : Nat) : Int := if pcB l = true then (fiL l 32 8).getD k 0 else 0
def pcC (l : List UInt8) : Value := .agg #[.int .i64 (pcX l 0), .int .i64 (pcX l 1), .int .i64 (pcX l 2), .int .i64 (pcX l 3), .int .i64 (pcX l 4), .int .i64 (pcX l 5), .int .i64 (pcX l 6), .int .i64 (pcX l 7)]
theorem in500_bd {z : List Int} (h : z.all in500 = true) : ∀ x ∈ z, Bd 1000000 x := by
  intro x hx
  have := List.all_eq_true.1 h x hx
  have := of_decide_eq_true this
  exact ⟨by omega, by omega⟩
/-- What the program tests. -/
theorem pc_iff (s : ByteArray) : pcB s.data.toList = (decide ((inI s).length = 8) && ((inI s).all in500 && decide (jt (inI s) = s.data.toList))) ∧ (pcB s.data.toList = true → fiL s.data.toList 32 8 = inI s) := by
  have h1 : pcB s.data.toList = true → fiL s.data.toList 32 8 = inI s ∧ jt (inI s) = s.data.toList := by
    intro h
    unfold pcB at h
    simp only [Bool.and_eq_true, decide_eq_true_eq] at h
    obtain ⟨hl, ha⟩ := h
    obtain ⟨hb, he⟩ := (fiL_iff (b := 32) (n := 8) (by decide) (by omega) hl).1 rfl
    have hi : inI s = fiL s.data.toList 32 8 := inI_join (b := 32) (by decide) (by decide) (fun x hx => (hb x hx).mono (by omega)) he (by intro h0; rw [h0] at hl; simp at hl)
    refine ⟨hi.symm, ?_⟩
    rw [hi]
    exact he.symm
  have h2 : (decide ((inI s).length = 8) && ((inI s).all in500 && decide (jt (inI s) = s.data.toList))) = true → pcB s.data.toList = true := by
    intro h
    simp only [Bool.and_eq_true, decide_eq_true_eq] at h
    obtain ⟨hl, ha, hj⟩ := h
    have hf : fiL s.data.toList 32 8 = inI s := (fiL_iff (b := 32) (n := 8) (by decide) (by omega) hl).2 ⟨in500_bd ha, hj.symm⟩
    unfold pcB
    rw [hf, decide_eq_true hl, ha]
    rfl
  refine ⟨?_, fun h => (h1 h).1⟩
  cases hp : pcB s.data.toList with
  | true =>
    obtain ⟨e1, e2⟩ := h1 hp
    unfold pcB at hp
    rw [e1] at hp
    simp only [Bool.and_eq_true] at hp
    rw [hp.1, hp.2, decide_eq_true e2]
    rfl
  | false =>
    cases hq : (decide ((inI s).length = 8) && ((inI s).all in500 && decide (jt (inI s) = s.data.toList))) with
    | false => rfl
    | true => rw [h2 hq] at hp; cases hp
set_option maxRecDepth 100000 in
set_option maxHeartbeats 2000000 in
theorem specParse_any (s : ByteArray) (w : World) (hs : s.size ≤ 1048576) : Calls Tryd.prog 6 #[.string s] w fun en w' => en = .returned (.tuple #[pcC s.data.toList, .bool (pcB s.data.toList)]) ∧ Below w.heap.size w w' := by
  have hcall : Hid (∀ w0, Calls Tryd.prog 26 #[.string s, .int .u8 32, .int .i64 8] w0 fun en w' => ∃ v, en = .returned v ∧ Rw w0.heap.size 3 1 c1 w' v (fiL s.data.toList 32 8) ∧ Below w0.heap.size w0 w') := fun w0 => foInts_any s 32 8 w0 hs (by omega)
  obtain ⟨L, hL⟩ : ∃ L, (fiL s.data.toList 32 8).length = L := ⟨_, rfl⟩
  have HL := Lib.hid hL
  have hll : L ≤ 1048577 := by
    rw [← hL]
    unfold fiL
    split
    · rename_i h8
      cases hq : seqO foI (splitL s.data.toList 32) with
      | none => simp
      | some z => have := (seqO_some foI _ _ hq).1; simp; omega
    · simp
  by_cases c8 : L = 8
  · subst c8
    obtain ⟨x0, x1, x2, x3, x4, x5, x6, x7, hz⟩ : ∃ x0 x1 x2 x3 x4 x5 x6 x7, fiL s.data.toList 32 8 = [x0, x1, x2, x3, x4, x5, x6, x7] := by
      match h : fiL s.data.toList 32 8, hL with
      | [x0, x1, x2, x3, x4, x5, x6, x7], _ => exact ⟨_, _, _, _, _, _, _, _, rfl⟩
    have HZ := Lib.hid hz
    have hB : pcB s.data.toList = cubeB x0 x1 x2 x3 x4 x5 x6 x7 := by
      unfold pcB
      rw [hz]
      rfl
    have hC : pcC s.data.toList = .agg #[.int .i64 (cz (cubeB x0 x1 x2 x3 x4 x5 x6 x7) x0), .int .i64 (cz (cubeB x0 x1 x2 x3 x4 x5 x6 x7) x1), .int .i64 (cz (cubeB x0 x1 x2 x3 x4 x5 x6 x7) x2), .int .i64 (cz (cubeB x0 x1 x2 x3 x4 x5 x6 x7) x3), .int .i64 (cz (cubeB x0 x1 x2 x3 x4 x5 x6 x7) x4), .int .i64 (cz (cubeB x0 x1 x2 x3 x4 x5 x6 x7) x5), .int .i64 (cz (cubeB x0 x1 x2 x3 x4 x5 x6 x7) x6), .int .i64 (cz (cubeB x0 x1 x2 x3 x4 x5 x6 x7) x7)] := by
      unfold pcC pcX cz
      rw [hB, hz]
      rfl
    rw [hC, hB]
    rw [hz] at hcall
    clear hC hB hz hL
    have hcu : Hid (∀ w0, Calls Tryd.prog 27 #[.agg #[.int .i64 x0, .int .i64 x1, .int .i64 x2, .int .i64 x3, .int .i64 x4, .int .i64 x5, .int .i64 x6, .int .i64 x7]] w0 fun en w' => en = .returned (.bool (cubeB x0 x1 x2 x3 x4 x5 x6 x7)) ∧ Below w0.heap.size w0 w') := fun w0 => cuIn_any x0 x1 x2 x3 x4 x5 x6 x7 w0
    have hof : Hid (∀ (g c : Nat) (w0 : World), g < w0.heap.size → (∀ k x, [x0, x1, x2, x3, x4, x5, x6, x7][k]? = some x → w0.cell? ⟨g, k, none⟩ = some (.int .i64 x)) → Calls Tryd.prog 28 #[.slice (some ⟨g, 0, none⟩) 8 c] w0 fun en w' => en = .returned (.agg #[.int .i64 x0, .int .i64 x1, .int .i64 x2, .int .i64 x3, .int .i64 x4, .int .i64 x5, .int .i64 x6, .int .i64 x7]) ∧ Below w0.heap.size w0 w') := by
      show ∀ _, _
      intro g c w0 hg hc
      refine cuOfL_any (fun k => match k with | 0 => x0 | 1 => x1 | 2 => x2 | 3 => x3 | 4 => x4 | 5 => x5 | 6 => x6 | _ => x7) g c w0 hg ?_
      intro o ho
      match o, ho with
      | 0, _ => exact hc 0 x0 rfl
      | 1, _ => exact hc 1 x1 rfl
      | 2, _ => exact hc 2 x2 rfl
      | 3, _ => exact hc 3 x3 rfl
      | 4, _ => exact hc 4 x4 rfl
      | 5, _ => exact hc 5 x5 rfl
      | 6, _ => exact hc 6 x6 rfl
      | 7, _ => exact hc 7 x7 rfl
    generalize cubeB x0 x1 x2 x3 x4 x5 x6 x7 = q at *
    go_enter Tryd.func6, Tryd.ntmps6
    go_wp2_with fail
    refine (hcall.out _).mono ?_
    rintro e1 w1 ⟨v1, rfl, hr1, hB1⟩
    have hz1 := hB1.size
    try simp at hz1
    obtain ⟨a1, k1, hv1, hk1, _, hs1⟩ := hr1.sees c1_len
    have hv1' : v1 = .slice a1 8 k1 := hv1
    subst hv1'
    rcases hs1 with hs1 | ⟨g, rfl, hg1, hg2, hgc, _⟩
    · simp at hs1
    have GC : Hid (∀ k x, [x0, x1, x2, x3, x4, x5, x6, x7][k]? = some x → w1.cell? ⟨g, k, none⟩ = some (.int .i64 x)) := Lib.hid (fun k x hx => by have := hgc k x hx 0 (by omega); simpa [c1] using this)
    clear hgc hr1
    go_wp2_with fail
    refine (hof.out g k1 _ hg2 GC.out).mono ?_
    rintro e2 w2 ⟨rfl, hB2⟩
    have hz2 := hB2.size
    go_wp2_with fail
    refine (hcu.out _).mono ?_
    rintro e3 w3 ⟨rfl, hB3⟩
    have hz3 := hB3.size
    have GC3 : ∀ k x, [x0, x1, x2, x3, x4, x5, x6, x7][k]? = some x → w3.cell? ⟨g, k, none⟩ = some (.int .i64 x) := fun k x hx => by rw [bG hB3 (by omega), bG hB2 hg2]; exact GC.out k x hx
    have hg3 : g < w3.heap.size := by omega
    cases q with
    | true =>
      go_wp2_with fail
      refine (hof.out g k1 _ hg3 GC3).mono ?_
      rintro e4 w4 ⟨rfl, hB4⟩
      have hz4 := hB4.size
      have hR4 : ∀ o, w4.cell? ⟨w.heap.size, o, none⟩ = (#[.int .i64 0, .int .i64 0, .int .i64 0, .int .i64 0, .int .i64 0, .int .i64 0, .int .i64 0, .int .i64 0] : Array Value)[o]? := by (intro o; (repeat (first | ((with_reducible refine (cell_alloc_old _ _ _ _ ?_).trans ?_); (focus (first | omega | (simp <;> omega)))) | ((with_reducible refine (bC (by assumption) ?_).trans ?_); (focus (first | omega | (simp <;> omega)))) | ((with_reducible refine (bG (by assumption) ?_).trans ?_); (focus (first | omega | (simp <;> omega)))))); simp [go_sem])
      have hF4 : ∀ o, w4.frozen? ⟨w.heap.size, o, none⟩ = false := by (intro o; (repeat (first | ((with_reducible refine (frozen_alloc_old _ _ _ _ ?_).trans ?_); (focus (first | omega | (simp <;> omega)))) | ((with_reducible refine (fG (by assumption) ?_).trans ?_); (focus (first | omega | (simp <;> omega)))))); simp [go_sem])
      have hBW : Below w.heap.size w w4 := by repeat (first | with_reducible exact Below.refl _ _ | with_reducible assumption | ((with_reducible refine blA ?_ ?_); (focus (first | omega | (simp <;> omega)))) | (with_reducible refine blD ?_) | (with_reducible refine blN ?_) | ((with_reducible refine blS ?_ ?_); (focus (first | omega | (simp <;> omega)))) | ((with_reducible refine blT (by assumption) ?_ ?_); (focus (first | omega | (simp <;> omega)))))
      have hlt4 : w.heap.size < w4.heap.size := by omega
      clear hB4 hB3 hB2 hB1 GC3
      go_wp2
      (refine bodyPost_ret (v := .tuple #[.agg #[.int .i64 x0, .int .i64 x1, .int .i64 x2, .int .i64 x3, .int .i64 x4, .int .i64 x5, .int .i64 x6, .int .i64 x7], .bool true]) ?_ rfl ⟨?_, ?_⟩; (focus (go_light; first | (simp [results, Tryd.results6, go_sem, *]; done) | (simp (disch := first | omega | (simp <;> omega) | (refine isSome_of ?_ ?_; (focus ((repeat (first | ((with_reducible refine (cell_alloc_old _ _ _ _ ?_).trans ?_); (focus (first | omega | (simp <;> omega)))) | ((with_reducible refine (bG (by assumption) ?_).trans ?_); (focus (first | omega | (simp <;> omega)))))); exact rfl)); simp [go_sem]) | fail) [results, Tryd.results6, go_sem, *]; done))); (focus (rfl)); repeat (first | with_reducible exact Below.refl _ _ | with_reducible assumption | ((with_reducible refine blA ?_ ?_); (focus (first | omega | (simp <;> omega)))) | (with_reducible refine blD ?_) | (with_reducible refine blN ?_) | ((with_reducible refine blS ?_ ?_); (focus (first | omega | (simp <;> omega)))) | ((with_reducible refine blT (by assumption) ?_ ?_); (focus (first | omega | (simp <;> omega))))))
    | false =>
      have hR4 : ∀ o, w3.cell? ⟨w.heap.size, o, none⟩ = (#[.int .i64 0, .int .i64 0, .int .i64 0, .int .i64 0, .int .i64 0, .int .i64 0, .int .i64 0, .int .i64 0] : Array Value)[o]? := by (intro o; (repeat (first | ((with_reducible refine (cell_alloc_old _ _ _ _ ?_).trans ?_); (focus (first | omega | (simp <;> omega)))) | ((with_reducible refine (bC (by assumption) ?_).trans ?_); (focus (first | omega | (simp <;> omega)))) | ((with_reducible refine (bG (by assumption) ?_).trans ?_); (focus (first | omega | (simp <;> omega)))))); simp [go_sem])
      have hF4 : ∀ o, w3.frozen? ⟨w.heap.size, o, none⟩ = false := by (intro o; (repeat (first | ((with_reducible refine (frozen_alloc_old _ _ _ _ ?_).trans ?_); (focus (first | omega | (simp <;> omega)))) | ((with_reducible refine (fG (by assumption) ?_).trans ?_); (focus (first | omega | (simp <;> omega)))))); simp [go_sem])
      have hBW : Below w.heap.size w w3 := by repeat (first | with_reducible exact Below.refl _ _ | with_reducible assumption | ((with_reducible refine blA ?_ ?_); (focus (first | omega | (simp <;> omega)))) | (with_reducible refine blD ?_) | (with_reducible refine blN ?_) | ((with_reducible refine blS ?_ ?_); (focus (first | omega | (simp <;> omega)))) | ((with_reducible refine blT (by assumption) ?_ ?_); (focus (first | omega | (simp <;> omega)))))
      have hlt4 : w.heap.size < w3.heap.size := by omega
      clear hB3 hB2 hB1 GC3
      go_wp2
      (refine bodyPost_ret (v := .tuple #[.agg #[.int .i64 0, .int .i64 0, .int .i64 0, .int .i64 0, .int .i64 0, .int .i64 0, .int .i64 0, .int .i64 0], .bool false]) ?_ rfl ⟨?_, ?_⟩; (focus (go_light; first | (simp [results, Tryd.results6, go_sem, *]; done) | (simp (disch := first | omega | (simp <;> omega) | (refine isSome_of ?_ ?_; (focus ((repeat (first | ((with_reducible refine (cell_alloc_old _ _ _ _ ?_).trans ?_); (focus (first | omega | (simp <;> omega)))) | ((with_reducible refine (bG (by assumption) ?_).trans ?_); (focus (first | omega | (simp <;> omega)))))); exact rfl)); simp [go_sem]) | fail) [results, Tryd.results6, go_sem, *]; done))); (focus (rfl)); repeat (first | with_reducible exact Below.refl _ _ | with_reducible assumption | ((with_reducible refine blA ?_ ?_); (focus (first | omega | (simp <;> omega)))) | (with_reducible refine blD ?_) | (with_reducible refine blN ?_) | ((with_reducible refine blS ?_ ?_); (focus (first | omega | (simp <;> omega)))) | ((with_reducible refine blT (by assumption) ?_ ?_); (focus (first | omega | (simp <;> omega))))))
  · have hB : Hid (pcB s.data.toList = false) := by
      show _ = _
      unfold pcB
      rw [HL.out, decide_eq_false c8, Bool.false_and]
    have hC : Hid (pcC s.data.toList = .agg #[.int .i64 0, .int .i64 0, .int .i64 0, .int .i64 0, .int .i64 0, .int .i64 0, .int .i64 0, .int .i64 0]) := by
      show _ = _
      unfold pcC pcX
      rw [hB.out]
      rfl
    rw [hC.out, hB.out]
    have hc8 : ((L : Int) != 8) = true := by simp; omega
    clear hL
    go_enter Tryd.func6, Tryd.ntmps6
    go_wp2_with fail
    refine (hcall.out _).mono ?_
    rintro e1 w1 ⟨v1, rfl, hr1, hB1⟩
    have hz1 := hB1.size
    try simp at hz1
    obtain ⟨a1, k1, hv1, hk1, _, hs1⟩ := hr1.sees c1_len
    rw [HL.out] at hv1
    subst hv1
    have hR4 : ∀ o, w1.cell? ⟨w.heap.size, o, none⟩ = (#[.int .i64 0, .int .i64 0, .int .i64 0, .int .i64 0, .int .i64 0, .int .i64 0, .int .i64 0, .int .i64 0] : Array Value)[o]? := by (intro o; (repeat (first | ((with_reducible refine (cell_alloc_old _ _ _ _ ?_).trans ?_); (focus (first | omega | (simp <;> omega)))) | ((with_reducible refine (bC (by assumption) ?_).trans ?_); (focus (first | omega | (simp <;> omega)))) | ((with_reducible refine (bG (by assumption) ?_).trans ?_); (focus (first | omega | (simp <;> omega)))))); simp [go_sem])
    have hF4 : ∀ o, w1.frozen? ⟨w.heap.size, o, none⟩ = false := by (intro o; (repeat (first | ((with_reducible refine (frozen_alloc_old _ _ _ _ ?_).trans ?_); (focus (first | omega | (simp <;> omega)))) | ((with_reducible refine (fG (by assumption) ?_).trans ?_); (focus (first | omega | (simp <;> omega)))))); simp [go_sem])
    have hBW : Below w.heap.size w w1 := by repeat (first | with_reducible exact Below.refl _ _ | with_reducible assumption | ((with_reducible refine blA ?_ ?_); (focus (first | omega | (simp <;> omega)))) | (with_reducible refine blD ?_) | (with_reducible refine blN ?_) | ((with_reducible refine blS ?_ ?_); (focus (first | omega | (simp <;> omega)))) | ((with_reducible refine blT (by assumption) ?_ ?_); (focus (first | omega | (simp <;> omega)))))
    have hlt4 : w.heap.size < w1.heap.size := by omega
    clear hB1 hs1 hr1
    go_wp2
    (refine bodyPost_ret (v := .tuple #[.agg #[.int .i64 0, .int .i64 0, .int .i64 0, .int .i64 0, .int .i64 0, .int .i64 0, .int .i64 0, .int .i64 0], .bool false]) ?_ rfl ⟨?_, ?_⟩; (focus (go_light; first | (simp [results, Tryd.results6, go_sem, *]; done) | (simp (disch := first | omega | (simp <;> omega) | (refine isSome_of ?_ ?_; (focus ((repeat (first | ((with_reducible refine (cell_alloc_old _ _ _ _ ?_).trans ?_); (focus (first | omega | (simp <;> omega)))) | ((with_reducible refine (bG (by assumption) ?_).trans ?_); (focus (first | omega | (simp <;> omega)))))); exact rfl)); simp [go_sem]) | fail) [results, Tryd.results6, go_sem, *]; done))); (focus (rfl)); repeat (first | with_reducible exact Below.refl _ _ | with_reducible assumption | ((with_reducible refine blA ?_ ?_); (focus (first | omega | (simp <;> omega)))) | (with_reducible refine blD ?_) | (with_reducible refine blN ?_) | ((with_reducible refine blS ?_ ?_); (focus (first | omega | (simp <;> omega)))) | ((with_reducible refine blT (by assumption) ?_ ?_); (focus (first | omega | (simp <;> omega))))))
set_option maxRecDepth 100000 in
theorem arrAt (g k : Nat) (w : World) : (Instr.arrayAt 60 (.slice (some ⟨g, 0, none⟩) 8 k)).run Tryd.prog w = .ok (.pointer (some ⟨g, 0, none⟩)) w := by kernel_rfl
theorem inI_len (s : ByteArray) : (inI s).length ≤ s.size := by
  have h := words_len s
  unfold inI
  cases hq : seqO (fun w : ByteArray => atO w.data.toList) (Lib.goFieldsP sepP s) with
  | none => simp
  | some z => have := (seqO_some _ _ _ hq).1; simp; omega
set_option maxRecDepth 100000 in
set_option maxHeartbeats 4000000 in
theorem implParse_any (s : ByteArray) (w : World) (hs : s.size ≤ 1048576) (he : Errs w) (ht : Tab w) : Calls Tryd.prog 7 #[.string s] w fun en w' => en = .returned (.tuple #[pcC s.data.toList, .bool (pcB s.data.toList)]) ∧ Below w.heap.size w w' := by
  have hcall : Hid (∀ w0, Below w.heap.size w w0 → Calls Tryd.prog 29 #[.string s] w0 fun en w' => ∃ v, en = .returned v ∧ Rw w0.heap.size 3 1 c1 w' v (inI s) ∧ Below w0.heap.size w0 w') := fun w0 h0 => integersIn_any s w0 hs (he.below h0)
  have HT := Lib.hid ht
  obtain ⟨hp1, hp2⟩ := pc_iff s
  have hll := inI_len s
  obtain ⟨L, hL⟩ : ∃ L, (inI s).length = L := ⟨_, rfl⟩
  have HL := Lib.hid hL
  rw [hL] at hll
  clear he ht
  by_cases c8 : L = 8
  · subst c8
    obtain ⟨x0, x1, x2, x3, x4, x5, x6, x7, hz⟩ : ∃ x0 x1 x2 x3 x4 x5 x6 x7, inI s = [x0, x1, x2, x3, x4, x5, x6, x7] := by
      match h : inI s, hL with
      | [x0, x1, x2, x3, x4, x5, x6, x7], _ => exact ⟨_, _, _, _, _, _, _, _, rfl⟩
    rw [hz] at hp1 hp2 hcall
    have hB : pcB s.data.toList = (cubeB x0 x1 x2 x3 x4 x5 x6 x7 && decide (jt [x0, x1, x2, x3, x4, x5, x6, x7] = s.data.toList)) := by
      rw [hp1]
      rfl
    clear hL hll hp1
    obtain ⟨q, hq⟩ : ∃ q, cubeB x0 x1 x2 x3 x4 x5 x6 x7 = q := ⟨_, rfl⟩
    have hcu : Hid (∀ w0, Calls Tryd.prog 30 #[.agg #[.int .i64 x0, .int .i64 x1, .int .i64 x2, .int .i64 x3, .int .i64 x4, .int .i64 x5, .int .i64 x6, .int .i64 x7]] w0 fun en w' => en = .returned (.tuple #[.agg #[.int .i64 (cz q x0), .int .i64 (cz q x1), .int .i64 (cz q x2), .int .i64 (cz q x3), .int .i64 (cz q x4), .int .i64 (cz q x5), .int .i64 (cz q x6), .int .i64 (cz q x7)], .bool q]) ∧ Below w0.heap.size w0 w') := fun w0 => by
      have := cube_any x0 x1 x2 x3 x4 x5 x6 x7 w0
      rwa [hq] at this
    cases q with
    | false =>
      have hB0 : Hid (pcB s.data.toList = false) := by show _ = _; rw [hB, hq, Bool.false_and]
      have hC : Hid (pcC s.data.toList = .agg #[.int .i64 0, .int .i64 0, .int .i64 0, .int .i64 0, .int .i64 0, .int .i64 0, .int .i64 0, .int .i64 0]) := by
        show _ = _
        unfold pcC pcX
        rw [hB0.out]
        rfl
      rw [hC.out, hB0.out]
      clear hB hp2 hq HL hz
      go_enter Tryd.func7, Tryd.ntmps7
      go_wp2_with fail
      refine (hcall.out _ ((Below.refl _ _).alloc (Nat.le_refl _) _)).mono ?_
      rintro e1 w1 ⟨v1, rfl, hr1, hB1⟩
      have hz1 := hB1.size
      try simp at hz1
      obtain ⟨a1, k1, hv1, hk1, _, hs1⟩ := hr1.sees c1_len
      have hv1' : v1 = .slice a1 8 k1 := hv1
      subst hv1'
      rcases hs1 with hs1 | ⟨g, rfl, hg1, hg2, hgc, _⟩
      · simp at hs1
      have GC : Hid (∀ k x, [x0, x1, x2, x3, x4, x5, x6, x7][k]? = some x → w1.cell? ⟨g, k, none⟩ = some (.int .i64 x)) := Lib.hid (fun k x hx => by have := hgc k x hx 0 (by omega); simpa [c1] using this)
      have hk0 := GC.out 0 x0 rfl
      have hk1 := GC.out 1 x1 rfl
      have hk2 := GC.out 2 x2 rfl
      have hk3 := GC.out 3 x3 rfl
      have hk4 := GC.out 4 x4 rfl
      have hk5 := GC.out 5 x5 rfl
      have hk6 := GC.out 6 x6 rfl
      have hk7 := GC.out 7 x7 rfl
      clear hgc hr1
      have harr := arrAt g k1 w1
      go_wp2_with fail
      refine (hcu.out _).mono ?_
      rintro e2 w2 ⟨rfl, hB2⟩
      have hz2 := hB2.size
      have hR4 : ∀ o, w2.cell? ⟨w.heap.size, o, none⟩ = (#[.int .i64 0, .int .i64 0, .int .i64 0, .int .i64 0, .int .i64 0, .int .i64 0, .int .i64 0, .int .i64 0] : Array Value)[o]? := by (intro o; (repeat (first | ((with_reducible refine (cell_alloc_old _ _ _ _ ?_).trans ?_); (focus (first | omega | (simp <;> omega)))) | ((with_reducible refine (bC (by assumption) ?_).trans ?_); (focus (first | omega | (simp <;> omega)))) | ((with_reducible refine (bG (by assumption) ?_).trans ?_); (focus (first | omega | (simp <;> omega)))))); simp [go_sem])
      have hF4 : ∀ o, w2.frozen? ⟨w.heap.size, o, none⟩ = false := by (intro o; (repeat (first | ((with_reducible refine (frozen_alloc_old _ _ _ _ ?_).trans ?_); (focus (first | omega | (simp <;> omega)))) | ((with_reducible refine (fG (by assumption) ?_).trans ?_); (focus (first | omega | (simp <;> omega)))))); simp [go_sem])
      have hBW : Below w.heap.size w w2 := by repeat (first | with_reducible exact Below.refl _ _ | with_reducible assumption | ((with_reducible refine blA ?_ ?_); (focus (first | omega | (simp <;> omega)))) | (with_reducible refine blD ?_) | (with_reducible refine blN ?_) | ((with_reducible refine blS ?_ ?_); (focus (first | omega | (simp <;> omega)))) | ((with_reducible refine blT (by assumption) ?_ ?_); (focus (first | omega | (simp <;> omega)))))
      have hlt4 : w.heap.size < w2.heap.size := by omega
      clear hB2 hB1
      go_wp2
      (refine bodyPost_ret (v := .tuple #[.agg #[.int .i64 0, .int .i64 0, .int .i64 0, .int .i64 0, .int .i64 0, .int .i64 0, .int .i64 0, .int .i64 0], .bool false]) ?_ rfl ⟨?_, ?_⟩; (focus (go_light; first | (simp [results, Tryd.results7, go_sem, *]; done) | (simp (disch := first | omega | (simp <;> omega) | (refine isSome_of ?_ ?_; (focus ((repeat (first | ((with_reducible refine (cell_alloc_old _ _ _ _ ?_).trans ?_); (focus (first | omega | (simp <;> omega)))) | ((with_reducible refine (bG (by assumption) ?_).trans ?_); (focus (first | omega | (simp <;> omega)))))); exact rfl)); simp [go_sem]) | fail) [results, Tryd.results7, go_sem, *]; done))); (focus (rfl)); repeat (first | with_reducible exact Below.refl _ _ | with_reducible assumption | ((with_reducible refine blA ?_ ?_); (focus (first | omega | (simp <;> omega)))) | (with_reducible refine blD ?_) | (with_reducible refine blN ?_) | ((with_reducible refine blS ?_ ?_); (focus (first | omega | (simp <;> omega)))) | ((with_reducible refine blT (by assumption) ?_ ?_); (focus (first | omega | (simp <;> omega))))))
    | true =>
      have hcu : Hid (∀ w0, Calls Tryd.prog 30 #[.agg #[.int .i64 x0, .int .i64 x1, .int .i64 x2, .int .i64 x3, .int .i64 x4, .int .i64 x5, .int .i64 x6, .int .i64 x7]] w0 fun en w' => en = .returned (.tuple #[.agg #[.int .i64 x0, .int .i64 x1, .int .i64 x2, .int .i64 x3, .int .i64 x4, .int .i64 x5, .int .i64 x6, .int .i64 x7], .bool true]) ∧ Below w0.heap.size w0 w') := hcu
      have htx : Hid (∀ w0, Below w.heap.size w w0 → Calls Tryd.prog 31 #[.agg #[.int .i64 x0, .int .i64 x1, .int .i64 x2, .int .i64 x3, .int .i64 x4, .int .i64 x5, .int .i64 x6, .int .i64 x7]] w0 fun en w' => en = .returned (.string ⟨(jt [x0, x1, x2, x3, x4, x5, x6, x7]).toArray⟩) ∧ Below w0.heap.size w0 w') := fun w0 h0 => implText_any x0 x1 x2 x3 x4 x5 x6 x7 w0 hq (HT.out.below h0)
      obtain ⟨t, ht⟩ : ∃ t : ByteArray, ⟨(jt [x0, x1, x2, x3, x4, x5, x6, x7]).toArray⟩ = t := ⟨_, rfl⟩
      rw [ht] at htx
      have hjt : jt [x0, x1, x2, x3, x4, x5, x6, x7] = t.data.toList := by rw [← ht]
      rw [hjt] at hB
      by_cases hts : t = s
      · subst hts
        have hB0 : pcB t.data.toList = true := by rw [hB, hq, decide_eq_true rfl]; rfl
        have hC : Hid (pcC t.data.toList = .agg #[.int .i64 x0, .int .i64 x1, .int .i64 x2, .int .i64 x3, .int .i64 x4, .int .i64 x5, .int .i64 x6, .int .i64 x7]) := by
          show _ = _
          unfold pcC pcX
          rw [hB0, hp2 hB0]
          rfl
        rw [hC.out, hB0]
        clear hB hp2 hq HL hz hjt ht hB0
        go_enter Tryd.func7, Tryd.ntmps7
        go_wp2_with fail
        refine (hcall.out _ ((Below.refl _ _).alloc (Nat.le_refl _) _)).mono ?_
        rintro e1 w1 ⟨v1, rfl, hr1, hB1⟩
        have hz1 := hB1.size
        try simp at hz1
        obtain ⟨a1, k1, hv1, hk1, _, hs1⟩ := hr1.sees c1_len
        have hv1' : v1 = .slice a1 8 k1 := hv1
        subst hv1'
        rcases hs1 with hs1 | ⟨g, rfl, hg1, hg2, hgc, _⟩
        · simp at hs1
        have GC : Hid (∀ k x, [x0, x1, x2, x3, x4, x5, x6, x7][k]? = some x → w1.cell? ⟨g, k, none⟩ = some (.int .i64 x)) := Lib.hid (fun k x hx => by have := hgc k x hx 0 (by omega); simpa [c1] using this)
        have hk0 := GC.out 0 x0 rfl
        have hk1 := GC.out 1 x1 rfl
        have hk2 := GC.out 2 x2 rfl
        have hk3 := GC.out 3 x3 rfl
        have hk4 := GC.out 4 x4 rfl
        have hk5 := GC.out 5 x5 rfl
        have hk6 := GC.out 6 x6 rfl
        have hk7 := GC.out 7 x7 rfl
        clear hgc hr1
        have harr := arrAt g k1 w1
        go_wp2_with fail
        refine (hcu.out _).mono ?_
        rintro e2 w2 ⟨rfl, hB2⟩
        have hz2 := hB2.size
        have hb2 := Lib.hid (show Below w.heap.size w (w2.alloc (.cells #[.int .i64 x0, .int .i64 x1, .int .i64 x2, .int .i64 x3, .int .i64 x4, .int .i64 x5, .int .i64 x6, .int .i64 x7] 23)) by repeat (first | with_reducible exact Below.refl _ _ | with_reducible assumption | ((with_reducible refine blA ?_ ?_); (focus (first | omega | (simp <;> omega)))) | (with_reducible refine blD ?_) | (with_reducible refine blN ?_) | ((with_reducible refine blS ?_ ?_); (focus (first | omega | (simp <;> omega)))) | ((with_reducible refine blT (by assumption) ?_ ?_); (focus (first | omega | (simp <;> omega))))))
        go_wp2_with fail
        refine (htx.out _ hb2.out).mono ?_
        rintro e3 w3 ⟨rfl, hB3⟩
        have hz3 := hB3.size
        try simp at hz3
        have hR4 : ∀ o, w3.cell? ⟨w.heap.size, o, none⟩ = (#[.int .i64 0, .int .i64 0, .int .i64 0, .int .i64 0, .int .i64 0, .int .i64 0, .int .i64 0, .int .i64 0] : Array Value)[o]? := by (intro o; (repeat (first | ((with_reducible refine (cell_alloc_old _ _ _ _ ?_).trans ?_); (focus (first | omega | (simp <;> omega)))) | ((with_reducible refine (bC (by assumption) ?_).trans ?_); (focus (first | omega | (simp <;> omega)))) | ((with_reducible refine (bG (by assumption) ?_).trans ?_); (focus (first | omega | (simp <;> omega)))))); simp [go_sem])
        have hF4 : ∀ o, w3.frozen? ⟨w.heap.size, o, none⟩ = false := by (intro o; (repeat (first | ((with_reducible refine (frozen_alloc_old _ _ _ _ ?_).trans ?_); (focus (first | omega | (simp <;> omega)))) | ((with_reducible refine (fG (by assumption) ?_).trans ?_); (focus (first | omega | (simp <;> omega)))))); simp [go_sem])
        have hR5 : ∀ o, w3.cell? ⟨w2.heap.size, o, none⟩ = (#[.int .i64 x0, .int .i64 x1, .int .i64 x2, .int .i64 x3, .int .i64 x4, .int .i64 x5, .int .i64 x6, .int .i64 x7] : Array Value)[o]? := by (intro o; (repeat (first | ((with_reducible refine (cell_alloc_old _ _ _ _ ?_).trans ?_); (focus (first | omega | (simp <;> omega)))) | ((with_reducible refine (bC (by assumption) ?_).trans ?_); (focus (first | omega | (simp <;> omega)))) | ((with_reducible refine (bG (by assumption) ?_).trans ?_); (focus (first | omega | (simp <;> omega)))))); simp [go_sem])
        have hBW : Below w.heap.size w w3 := by repeat (first | with_reducible exact Below.refl _ _ | with_reducible assumption | ((with_reducible refine blA ?_ ?_); (focus (first | omega | (simp <;> omega)))) | (with_reducible refine blD ?_) | (with_reducible refine blN ?_) | ((with_reducible refine blS ?_ ?_); (focus (first | omega | (simp <;> omega)))) | ((with_reducible refine blT (by assumption) ?_ ?_); (focus (first | omega | (simp <;> omega)))))
        have hlt4 : w.heap.size < w3.heap.size := by omega
        have hlt5 : w2.heap.size < w3.heap.size := by omega
        have hne5 : ¬ w2.heap.size = w.heap.size := by omega
        clear hB3 hB2 hB1
        go_wp2
        (refine bodyPost_ret (v := .tuple #[.agg #[.int .i64 x0, .int .i64 x1, .int .i64 x2, .int .i64 x3, .int .i64 x4, .int .i64 x5, .int .i64 x6, .int .i64 x7], .bool true]) ?_ rfl ⟨?_, ?_⟩; (focus (go_light; first | (simp [results, Tryd.results7, go_sem, *]; done) | (simp (disch := first | omega | (simp <;> omega) | (refine isSome_of ?_ ?_; (focus ((repeat (first | ((with_reducible refine (cell_alloc_old _ _ _ _ ?_).trans ?_); (focus (first | omega | (simp <;> omega)))) | ((with_reducible refine (bG (by assumption) ?_).trans ?_); (focus (first | omega | (simp <;> omega)))))); exact rfl)); simp [go_sem]) | fail) [results, Tryd.results7, go_sem, *]; done))); (focus (rfl)); repeat (first | with_reducible exact Below.refl _ _ | with_reducible assumption | ((with_reducible refine blA ?_ ?_); (focus (first | omega | (simp <;> omega)))) | (with_reducible refine blD ?_) | (with_reducible refine blN ?_) | ((with_reducible refine blS ?_ ?_); (focus (first | omega | (simp <;> omega)))) | ((with_reducible refine blT (by assumption) ?_ ?_); (focus (first | omega | (simp <;> omega))))))
      · have hB0 : Hid (pcB s.data.toList = false) := by
          show _ = _
          rw [hB, decide_eq_false (fun h => hts (by
            apply ByteArray.ext
            exact Array.toList_inj.1 h)), Bool.and_false]
        have hC : Hid (pcC s.data.toList = .agg #[.int .i64 0, .int .i64 0, .int .i64 0, .int .i64 0, .int .i64 0, .int .i64 0, .int .i64 0, .int .i64 0]) := by
          show _ = _
          unfold pcC pcX
          rw [hB0.out]
          rfl
        rw [hC.out, hB0.out]
        have hts' : (t.toList == s.toList) = false := (Lib.bytes_beq_false_iff t s).2 hts
        clear hB hp2 hq HL hz hjt ht
        go_enter Tryd.func7, Tryd.ntmps7
        go_wp2_with fail
        refine (hcall.out _ ((Below.refl _ _).alloc (Nat.le_refl _) _)).mono ?_
        rintro e1 w1 ⟨v1, rfl, hr1, hB1⟩
        have hz1 := hB1.size
        try simp at hz1
        obtain ⟨a1, k1, hv1, hk1, _, hs1⟩ := hr1.sees c1_len
        have hv1' : v1 = .slice a1 8 k1 := hv1
        subst hv1'
        rcases hs1 with hs1 | ⟨g, rfl, hg1, hg2, hgc, _⟩
        · simp at hs1
        have GC : Hid (∀ k x, [x0, x1, x2, x3, x4, x5, x6, x7][k]? = some x → w1.cell? ⟨g, k, none⟩ = some (.int .i64 x)) := Lib.hid (fun k x hx => by have := hgc k x hx 0 (by omega); simpa [c1] using this)
        have hk0 := GC.out 0 x0 rfl
        have hk1 := GC.out 1 x1 rfl
        have hk2 := GC.out 2 x2 rfl
        have hk3 := GC.out 3 x3 rfl
        have hk4 := GC.out 4 x4 rfl
        have hk5 := GC.out 5 x5 rfl
        have hk6 := GC.out 6 x6 rfl
        have hk7 := GC.out 7 x7 rfl
        clear hgc hr1
        have harr := arrAt g k1 w1
        go_wp2_with fail
        refine (hcu.out _).mono ?_
        rintro e2 w2 ⟨rfl, hB2⟩
        have hz2 := hB2.size
        have hb2 := Lib.hid (show Below w.heap.size w (w2.alloc (.cells #[.int .i64 x0, .int .i64 x1, .int .i64 x2, .int .i64 x3, .int .i64 x4, .int .i64 x5, .int .i64 x6, .int .i64 x7] 23)) by repeat (first | with_reducible exact Below.refl _ _ | with_reducible assumption | ((with_reducible refine blA ?_ ?_); (focus (first | omega | (simp <;> omega)))) | (with_reducible refine blD ?_) | (with_reducible refine blN ?_) | ((with_reducible refine blS ?_ ?_); (focus (first | omega | (simp <;> omega)))) | ((with_reducible refine blT (by assumption) ?_ ?_); (focus (first | omega | (simp <;> omega))))))
        go_wp2_with fail
        refine (htx.out _ hb2.out).mono ?_
        rintro e3 w3 ⟨rfl, hB3⟩
        have hz3 := hB3.size
        try simp at hz3
        have hR4 : ∀ o, w3.cell? ⟨w.heap.size, o, none⟩ = (#[.int .i64 0, .int .i64 0, .int .i64 0, .int .i64 0, .int .i64 0, .int .i64 0, .int .i64 0, .int .i64 0] : Array Value)[o]? := by (intro o; (repeat (first | ((with_reducible refine (cell_alloc_old _ _ _ _ ?_).trans ?_); (focus (first | omega | (simp <;> omega)))) | ((with_reducible refine (bC (by assumption) ?_).trans ?_); (focus (first | omega | (simp <;> omega)))) | ((with_reducible refine (bG (by assumption) ?_).trans ?_); (focus (first | omega | (simp <;> omega)))))); simp [go_sem])
        have hF4 : ∀ o, w3.frozen? ⟨w.heap.size, o, none⟩ = false := by (intro o; (repeat (first | ((with_reducible refine (frozen_alloc_old _ _ _ _ ?_).trans ?_); (focus (first | omega | (simp <;> omega)))) | ((with_reducible refine (fG (by assumption) ?_).trans ?_); (focus (first | omega | (simp <;> omega)))))); simp [go_sem])
        have hR5 : ∀ o, w3.cell? ⟨w2.heap.size, o, none⟩ = (#[.int .i64 x0, .int .i64 x1, .int .i64 x2, .int .i64 x3, .int .i64 x4, .int .i64 x5, .int .i64 x6, .int .i64 x7] : Array Value)[o]? := by (intro o; (repeat (first | ((with_reducible refine (cell_alloc_old _ _ _ _ ?_).trans ?_); (focus (first | omega | (simp <;> omega)))) | ((with_reducible refine (bC (by assumption) ?_).trans ?_); (focus (first | omega | (simp <;> omega)))) | ((with_reducible refine (bG (by assumption) ?_).trans ?_); (focus (first | omega | (simp <;> omega)))))); simp [go_sem])
        have hBW : Below w.heap.size w w3 := by repeat (first | with_reducible exact Below.refl _ _ | with_reducible assumption | ((with_reducible refine blA ?_ ?_); (focus (first | omega | (simp <;> omega)))) | (with_reducible refine blD ?_) | (with_reducible refine blN ?_) | ((with_reducible refine blS ?_ ?_); (focus (first | omega | (simp <;> omega)))) | ((with_reducible refine blT (by assumption) ?_ ?_); (focus (first | omega | (simp <;> omega)))))
        have hlt4 : w.heap.size < w3.heap.size := by omega
        have hlt5 : w2.heap.size < w3.heap.size := by omega
        have hne5 : ¬ w2.heap.size = w.heap.size := by omega
        clear hB3 hB2 hB1
        go_wp2
        (refine bodyPost_ret (v := .tuple #[.agg #[.int .i64 0, .int .i64 0, .int .i64 0, .int .i64 0, .int .i64 0, .int .i64 0, .int .i64 0, .int .i64 0], .bool false]) ?_ rfl ⟨?_, ?_⟩; (focus (go_light; first | (simp [results, Tryd.results7, go_sem, *]; done) | (simp (disch := first | omega | (simp <;> omega) | (refine isSome_of ?_ ?_; (focus ((repeat (first | ((with_reducible refine (cell_alloc_old _ _ _ _ ?_).trans ?_); (focus (first | omega | (simp <;> omega)))) | ((with_reducible refine (bG (by assumption) ?_).trans ?_); (focus (first | omega | (simp <;> omega)))))); exact rfl)); simp [go_sem]) | fail) [results, Tryd.results7, go_sem, *]; done))); (focus (rfl)); repeat (first | with_reducible exact Below.refl _ _ | with_reducible assumption | ((with_reducible refine blA ?_ ?_); (focus (first | omega | (simp <;> omega)))) | (with_reducible refine blD ?_) | (with_reducible refine blN ?_) | ((with_reducible refine blS ?_ ?_); (focus (first | omega | (simp <;> omega)))) | ((with_reducible refine blT (by assumption) ?_ ?_); (focus (first | omega | (simp <;> omega))))))
  · have hB0 : Hid (pcB s.data.toList = false) := by show _ = _; rw [hp1, hL, decide_eq_false c8, Bool.false_and]
    have hC : Hid (pcC s.data.toList = .agg #[.int .i64 0, .int .i64 0, .int .i64 0, .int .i64 0, .int .i64 0, .int .i64 0, .int .i64 0, .int .i64 0]) := by
      show _ = _
      unfold pcC pcX
      rw [hB0.out]
      rfl
    rw [hC.out, hB0.out]
    have hc8 : ((L : Int) != 8) = true := by simp; omega
    clear hp1 hp2 hL
    go_enter Tryd.func7, Tryd.ntmps7
    go_wp2_with fail
    refine (hcall.out _ ((Below.refl _ _).alloc (Nat.le_refl _) _)).mono ?_
    rintro e1 w1 ⟨v1, rfl, hr1, hB1⟩
    have hz1 := hB1.size
    try simp at hz1
    obtain ⟨a1, k1, hv1, hk1, _, hs1⟩ := hr1.sees c1_len
    rw [HL.out] at hv1
    subst hv1
    have hR4 : ∀ o, w1.cell? ⟨w.heap.size, o, none⟩ = (#[.int .i64 0, .int .i64 0, .int .i64 0, .int .i64 0, .int .i64 0, .int .i64 0, .int .i64 0, .int .i64 0] : Array Value)[o]? := by (intro o; (repeat (first | ((with_reducible refine (cell_alloc_old _ _ _ _ ?_).trans ?_); (focus (first | omega | (simp <;> omega)))) | ((with_reducible refine (bC (by assumption) ?_).trans ?_); (focus (first | omega | (simp <;> omega)))) | ((with_reducible refine (bG (by assumption) ?_).trans ?_); (focus (first | omega | (simp <;> omega)))))); simp [go_sem])
    have hF4 : ∀ o, w1.frozen? ⟨w.heap.size, o, none⟩ = false := by (intro o; (repeat (first | ((with_reducible refine (frozen_alloc_old _ _ _ _ ?_).trans ?_); (focus (first | omega | (simp <;> omega)))) | ((with_reducible refine (fG (by assumption) ?_).trans ?_); (focus (first | omega | (simp <;> omega)))))); simp [go_sem])
    have hBW : Below w.heap.size w w1 := by repeat (first | with_reducible exact Below.refl _ _ | with_reducible assumption | ((with_reducible refine blA ?_ ?_); (focus (first | omega | (simp <;> omega)))) | (with_reducible refine blD ?_) | (with_reducible refine blN ?_) | ((with_reducible refine blS ?_ ?_); (focus (first | omega | (simp <;> omega)))) | ((with_reducible refine blT (by assumption) ?_ ?_); (focus (first | omega | (simp <;> omega)))))
    have hlt4 : w.heap.size < w1.heap.size := by omega
    clear hB1 hs1 hr1
    go_wp2
    (refine bodyPost_ret (v := .tuple #[.agg #[.int .i64 0, .int .i64 0, .int .i64 0, .int .i64 0, .int .i64 0, .int .i64 0, .int .i64 0, .int .i64 0], .bool false]) ?_ rfl ⟨?_, ?_⟩; (focus (go_light; first | (simp [results, Tryd.results7, go_sem, *]; done) | (simp (disch := first | omega | (simp <;> omega) | (refine isSome_of ?_ ?_; (focus ((repeat (first | ((with_reducible refine (cell_alloc_old _ _ _ _ ?_).trans ?_); (focus (first | omega | (simp <;> omega)))) | ((with_reducible refine (bG (by assumption) ?_).trans ?_); (focus (first | omega | (simp <;> omega)))))); exact rfl)); simp [go_sem]) | fail) [results, Tryd.results7, go_sem, *]; done))); (focus (rfl)); repeat (first | with_reducible exact Below.refl _ _ | with_reducible assumption | ((with_reducible refine blA ?_ ?_); (focus (first | omega | (simp <;> omega)))) | (with_reducible refine blD ?_) | (with_reducible refine blN ?_) | ((with_reducible refine blS ?_ ?_); (focus (first | omega | (simp <;> omega)))) | ((with_reducible refine blT (by assumption) ?_ ?_); (focus (first | omega | (simp <;> omega))))))
theorem eqCubeL_any (s : List UInt8) (w : World) : Calls Tryd.prog 8 #[pcC s, pcC s] w fun en w' => en = .returned (.bool true) ∧ Below w.heap.size w w' := eqCube_same _ _ _ _ _ _ _ _ w
set_option maxRecDepth 100000 in
set_option maxHeartbeats 1000000 in
theorem law_parseCube (s : ByteArray) (w : World) (he : Errs w) (ht : Tab w) : Calls Tryd.prog 3 #[.string s] w fun en w' => en = .returned (.bool true) ∧ Below w.heap.size w w' := by
  have HE := Lib.hid he
  have HT := Lib.hid ht
  clear he ht
  by_cases hs : s.size ≤ 1048576
  · have hspec : Hid (∀ w0, Calls Tryd.prog 6 #[.string s] w0 fun en w' => en = .returned (.tuple #[pcC s.data.toList, .bool (pcB s.data.toList)]) ∧ Below w0.heap.size w0 w') := fun w0 => specParse_any s w0 hs
    have himpl : Hid (∀ w0, Below w.heap.size w w0 → Calls Tryd.prog 7 #[.string s] w0 fun en w' => en = .returned (.tuple #[pcC s.data.toList, .bool (pcB s.data.toList)]) ∧ Below w0.heap.size w0 w') := fun w0 h0 => implParse_any s w0 hs (HE.out.below h0) (HT.out.below h0)
    have heq : Hid (∀ w0, Calls Tryd.prog 8 #[pcC s.data.toList, pcC s.data.toList] w0 fun en w' => en = .returned (.bool true) ∧ Below w0.heap.size w0 w') := fun w0 => eqCubeL_any s.data.toList w0
    generalize pcB s.data.toList = q at *
    unfold pcC at *
    generalize pcX s.data.toList 0 = x0 at *
    generalize pcX s.data.toList 1 = x1 at *
    generalize pcX s.data.toList 2 = x2 at *
    generalize pcX s.data.toList 3 = x3 at *
    generalize pcX s.data.toList 4 = x4 at *
    generalize pcX s.data.toList 5 = x5 at *
    generalize pcX s.data.toList 6 = x6 at *
    generalize pcX s.data.toList 7 = x7 at *
    go_enter Tryd.func3, Tryd.ntmps3
    go_wp2_with fail
    refine (hspec.out _).mono ?_
    rintro e1 w1 ⟨rfl, hB1⟩
    have hz1 := hB1.size
    have hb1 := Lib.hid (show Below w.heap.size w (w1.alloc (.cells #[.int .i64 x0, .int .i64 x1, .int .i64 x2, .int .i64 x3, .int .i64 x4, .int .i64 x5, .int .i64 x6, .int .i64 x7] 23)) by repeat (first | with_reducible exact Below.refl _ _ | with_reducible assumption | ((with_reducible refine blA ?_ ?_); (focus (first | omega | (simp <;> omega)))) | (with_reducible refine blD ?_) | (with_reducible refine blN ?_) | ((with_reducible refine blS ?_ ?_); (focus (first | omega | (simp <;> omega)))) | ((with_reducible refine blT (by assumption) ?_ ?_); (focus (first | omega | (simp <;> omega))))))
    go_wp2_with fail
    refine (himpl.out _ hb1.out).mono ?_
    rintro e2 w2 ⟨rfl, hB2⟩
    have hz2 := hB2.size
    try simp at hz2
    have hR1 : ∀ o, w2.cell? ⟨w1.heap.size, o, none⟩ = (#[.int .i64 x0, .int .i64 x1, .int .i64 x2, .int .i64 x3, .int .i64 x4, .int .i64 x5, .int .i64 x6, .int .i64 x7] : Array Value)[o]? := by (intro o; (repeat (first | ((with_reducible refine (cell_alloc_old _ _ _ _ ?_).trans ?_); (focus (first | omega | (simp <;> omega)))) | ((with_reducible refine (bC (by assumption) ?_).trans ?_); (focus (first | omega | (simp <;> omega)))) | ((with_reducible refine (bG (by assumption) ?_).trans ?_); (focus (first | omega | (simp <;> omega)))))); simp [go_sem])
    have hlt1 : w1.heap.size < w2.heap.size := by omega
    have hne1 : ¬ w1.heap.size = w2.heap.size := by omega
    have hb2 := Lib.hid (show Below w.heap.size w (w2.alloc (.cells #[.int .i64 x0, .int .i64 x1, .int .i64 x2, .int .i64 x3, .int .i64 x4, .int .i64 x5, .int .i64 x6, .int .i64 x7] 23)) by repeat (first | with_reducible exact Below.refl _ _ | with_reducible assumption | ((with_reducible refine blA ?_ ?_); (focus (first | omega | (simp <;> omega)))) | (with_reducible refine blD ?_) | (with_reducible refine blN ?_) | ((with_reducible refine blS ?_ ?_); (focus (first | omega | (simp <;> omega)))) | ((with_reducible refine blT (by assumption) ?_ ?_); (focus (first | omega | (simp <;> omega))))))
    clear hB1 hB2
    go_wp2_with fail
    refine (heq.out _).mono ?_
    rintro e3 w3 ⟨rfl, hB3⟩
    have hz3 := hB3.size
    try simp at hz3
    go_wp2
    go_ret
    exact ⟨rfl, hb2.out.trans (hB3.mono (by simp; omega))⟩
  · have hs' : ¬ (s.size : Int) ≤ 1048576 := by omega
    go_enter Tryd.func3, Tryd.ntmps3
    go_wp2
    go_ret
    exact ⟨rfl, Below.refl _ _⟩
end Go.Proofs.YtlfbanoabipacaaDoor
