/-
  The walk of the function that finds a lattice's normal form.
-/
import Derived.Test.YtladcjoiaoaedaaNum
import Derived.Test.YtladcjoiaoaedaaHermB
import Derived.Test.YtladcjoiaoaedaaEnd
namespace Go.Proofs.Ytladcjoiaoaedaa
open Go.RowKit
attribute [local simp, local go_sem] past_cell past_frozen past_tape
/-- The numbers of one step stay small. -/
def FitI (m : Int) (s : Int × Int × Int) (v : Int × Int) : Prop := ∃ Y S M, HSide m Y S M ∧ HInv m Y S M s.2.1 s.2.2 v.1 v.2
/-- A state's numbers are small. -/
structure Good (A B D : Int) : Prop where
  a0 : 0 ≤ A
  a1 : A ≤ 4000000000000000000
  b : K4 B
  d : K4 D
  r : A ≠ 0 → 0 ≤ B ∧ B < A
theorem Bd.k4 {k n : Int} (h : Bd k n) (hk : k ≤ 4000000000000000000) : K4 n := ⟨by have := h.1; omega, by have := h.2; omega⟩
theorem K4.j {n : Int} (h : K4 n) : J64 n := ⟨by have := h.1; omega, by have := h.2; omega⟩
theorem red_bd {a z : Int} (ha : 0 ≤ a) (ha1 : a ≤ 4000000000000000000) (hz : K4 z) : K4 (red a z) ∧ (a ≠ 0 → 0 ≤ red a z ∧ red a z < a) := by
  unfold red
  by_cases h : a = 0
  · rw [if_pos h]; exact ⟨hz, fun h' => absurd h h'⟩
  · rw [if_neg h]
    have h1 := Int.emod_nonneg z h
    have h2 := Int.emod_lt_of_pos z (show 0 < a by omega)
    exact ⟨⟨by omega, by omega⟩, fun _ => ⟨h1, h2⟩⟩
/-- The end of the program's inner loop. -/
theorem fit_end {a b d x y Y S M : Int} (hS : HSide a Y S M) (h : HInv a Y S M b d x y) : K4 (eucI a y.natAbs b d x y).1 ∧ K4 (eucI a y.natAbs b d x y).2.1 ∧ K4 (eucI a y.natAbs b d x y).2.2 := by
  have e := eucI_inv hS y.natAbs b d x y h (Nat.le_refl _)
  exact ⟨e.hb.k4 hS.M4, e.hd.k4 hS.Y4, e.hx.k4 hS.M4⟩
theorem gcd_k4 {a x : Int} (ha : 0 ≤ a) (ha1 : a ≤ 4000000000000000000) (hx : K4 x) : (Int.gcd a x : Int) ≤ 4000000000000000000 := by
  obtain ⟨x1, x2⟩ := hx
  by_cases h : a = 0
  · subst h; rw [Int.gcd_zero_left]; omega
  · have := Int.gcd_le_natAbs_left x h
    omega
theorem good_step {a b d : Int} {v : Int × Int} (h : Good a b d) (hf : FitI a (a, b, d) v) : Good (hStep (a, b, d) v).1 (hStep (a, b, d) v).2.1 (hStep (a, b, d) v).2.2 := by
  obtain ⟨Y, S, M, hS, hI⟩ := hf
  obtain ⟨e1, e2, e3⟩ := fit_end hS hI
  have g := gcd_k4 h.a0 h.a1 e3
  obtain ⟨r1, r2⟩ := red_bd (a := (Int.gcd a (eucI a v.2.natAbs b d v.1 v.2).2.2 : Int)) (by omega) g e1
  exact ⟨by show (0 : Int) ≤ (Int.gcd _ _ : Int); omega, g, r1, e2, r2⟩
/-- What the function answers at its last state. -/
def hR1 (a d : Int) : Int := if a = 0 ∨ d = 0 then 0 else a
def hR2 (a b d : Int) : Int := if a = 0 ∨ d = 0 then 0 else if d < 0 then (-b) % a else b
def hR3 (a d : Int) : Int := if a = 0 ∨ d = 0 then 0 else if d < 0 then -d else d
def hRok (a d : Int) : Bool := !(decide (a = 0) || decide (d = 0))
theorem take_next {α : Type} (l : List (Int × Int)) (f : α → Int × Int → α) (z : α) (k : Nat) (h : k < l.length) : (l.take (k + 1)).foldl f z = f ((l.take k).foldl f z) (l.getD k (0, 0)) := by
  rw [List.take_succ_eq_append_getElem h, List.foldl_append]
  simp [List.getD_eq_getElem?_getD, h]
set_option maxRecDepth 100000 in
set_option maxHeartbeats 4000000 in
theorem hermite_any (l : List (Int × Int)) (g c : Nat) (w : World) (hl : l.length ≤ 1000) (hg : g < w.heap.size) (hc : ∀ k, k < l.length → w.cell? ⟨g, k * 2, none⟩ = some (.int .i64 ((l.getD k (0, 0)).1)) ∧ w.cell? ⟨g, k * 2 + 1, none⟩ = some (.int .i64 ((l.getD k (0, 0)).2)))
    (hfit : ∀ k, k < l.length → FitI ((l.take k).foldl hStep (0, 0, 0)).1 ((l.take k).foldl hStep (0, 0, 0)) (l.getD k (0, 0))) :
    Calls Try.prog 104 #[.slice (some ⟨g, 0, none⟩) l.length c] w fun en w' => en = .returned (.tuple #[.int .i64 (hR1 (l.foldl hStep (0, 0, 0)).1 (l.foldl hStep (0, 0, 0)).2.2), .int .i64 (hR2 (l.foldl hStep (0, 0, 0)).1 (l.foldl hStep (0, 0, 0)).2.1 (l.foldl hStep (0, 0, 0)).2.2), .int .i64 (hR3 (l.foldl hStep (0, 0, 0)).1 (l.foldl hStep (0, 0, 0)).2.2), .bool (hRok (l.foldl hStep (0, 0, 0)).1 (l.foldl hStep (0, 0, 0)).2.2)]) ∧ Below w.heap.size w w' := by
  have HC := Lib.hid hc
  have HF := Lib.hid hfit
  clear hc hfit
  go_enter Try.func104, Try.ntmps104
  go_wp2
  go_loopw [6, 7, 8, 16] (fun sa sb sd i wr => ∃ k : Nat, ∃ a b d : Int, k ≤ l.length ∧ i = .int .i64 (k : Int) ∧ sa = .int .i64 a ∧ sb = .int .i64 b ∧ sd = .int .i64 d ∧ Hid ((l.take k).foldl hStep (0, 0, 0) = (a, b, d)) ∧ Good a b d ∧ Hid (Below w.heap.size w wr)) (fun _ _ _ i _ => l.length - (intOf i).toNat)
  case atStart => exact ⟨0, 0, 0, 0, Nat.zero_le _, rfl, rfl, rfl, rfl, rfl, ⟨by omega, by omega, ⟨by omega, by omega⟩, ⟨by omega, by omega⟩, fun h => absurd rfl h⟩, Below.refl _ _⟩
  case round =>
    obtain ⟨k, a, b, d, hk, rfl, rfl, rfl, rfl, hst, hgood, HB⟩ := hrel
    obtain ⟨wo, rfl⟩ : ∃ wo : World, wo = wr := ⟨_, rfl⟩
    by_cases hlt : k < l.length
    · have hcell := HC.out k hlt
      have hf := HF.out k hlt
      have HN := Lib.hid (take_next l hStep (0, 0, 0) k hlt)
      rw [hst.out] at hf
      generalize l.getD k (0, 0) = v at *
      obtain ⟨x0, y0⟩ := v
      have hc1 : wo.cell? ⟨g, k * 2, none⟩ = some (.int .i64 x0) := by rw [bG HB.out hg]; exact hcell.1
      have hc2 : wo.cell? ⟨g, k * 2 + 1, none⟩ = some (.int .i64 y0) := by rw [bG HB.out hg]; exact hcell.2
      have hz := HB.out.size
      have hg' : g < wo.heap.size := by omega
      obtain ⟨Y, S, M, hS, hI⟩ := hf
      have HS := Lib.hid hS
      have HI := Lib.hid hI
      have HG := Lib.hid hgood
      clear hcell hS hI hgood
      go_wp2_with fail
      go_quiet (fail)
      go_wp2
      go_loop [7, 8, 11, 12] (fun sb sd sx sy => ∃ B D X y : Int, sb = .int .i64 B ∧ sd = .int .i64 D ∧ sx = .int .i64 X ∧ sy = .int .i64 y ∧ HInv a Y S M B D X y ∧ Hid (eucI a y.natAbs B D X y = eucI a y0.natAbs b d x0 y0)) (fun _ _ _ sy => (intOf sy).natAbs)
      case atStart => exact ⟨b, d, x0, y0, rfl, rfl, rfl, rfl, HI.out, rfl⟩
      case round =>
        obtain ⟨B, D, X, y, rfl, rfl, rfl, rfl, hinv, heq⟩ := hrel
        by_cases hy : y = 0
        · subst hy
          have hend : Hid (eucI a y0.natAbs b d x0 y0 = (B, D, X)) := by show _ = _; rw [← heq.out]; rfl
          obtain ⟨kB1, kB2⟩ := hinv.hb.k4 HS.out.M4
          obtain ⟨kX1, kX2⟩ := hinv.hx.k4 HS.out.M4
          have jX : J64 X := ⟨by omega, by omega⟩
          have jA : J64 a := ⟨by have := HG.out.a0; omega, by have := HG.out.a1; omega⟩
          have hstep : Hid (hStep (a, b, d) (x0, y0) = ((Int.gcd a X : Int), red (Int.gcd a X : Int) B, D)) := by
            show _ = _
            simp only [hStep, hend.out]
          have hgood' : Hid (Good (Int.gcd a X : Int) (red (Int.gcd a X : Int) B) D) := by
            have := good_step (v := (x0, y0)) HG.out ⟨Y, S, M, HS.out, HI.out⟩
            rwa [hstep.out] at this
          have hcall : Hid (∀ w0, Calls Try.prog 116 #[.int .i64 a, .int .i64 X] w0 fun e w' => e = .returned (.int .i64 (Int.gcd a X : Int)) ∧ ∃ n, w' = w0.drewN n) := fun w0 => gcd_any a X w0 jA jX
          have hst' : Hid ((l.take (k + 1)).foldl hStep (0, 0, 0) = ((Int.gcd a X : Int), red (Int.gcd a X : Int) B, D)) := by
            show _ = _
            rw [HN.out, hst.out, hstep.out]
          have G0 : 0 ≤ (Int.gcd a X : Int) := by omega
          have G1 : (Int.gcd a X : Int) ≤ 4000000000000000000 := hgood'.out.a1
          clear hstep hend
          generalize (Int.gcd a X : Int) = G at *
          by_cases h0 : G = 0
          · subst h0
            have hred : Hid (red 0 B = B) := by show _ = _; simp [red]
            go_wp2_with (go_at_call 116; refine (hcall.out _).mono ?_; rintro e w' ⟨rfl, nq2, rfl⟩)
            go_roundw
            case rel =>
              go_light
              refine ⟨k + 1, 0, B, D, by omega, by go_num, rfl, rfl, rfl, ?_, ?_, ?_⟩
              · show _ = _
                rw [hst'.out, hred.out]
              · have := hgood'.out
                rwa [hred.out] at this
              · show Below _ _ _
                have hB := HB.out
                repeat (first | with_reducible exact Below.refl _ _ | with_reducible assumption | ((with_reducible refine blA ?_ ?_); (focus (first | omega | (simp <;> omega)))) | (with_reducible refine blD ?_) | (with_reducible refine blN ?_) | ((with_reducible refine blS ?_ ?_); (focus (first | omega | (simp <;> omega)))) | ((with_reducible refine blT (by assumption) ?_ ?_); (focus (first | omega | (simp <;> omega)))))
            case measure => simp [intOf]; omega
          · have hred : Hid (red G B = B % G) := by show _ = _; simp [red, h0]
            go_wp2_with (first | (go_at_call 116; refine (hcall.out _).mono ?_; rintro e w' ⟨rfl, nq2, rfl⟩) | (go_at_call 78; refine (mod_any _ _ _ ⟨by omega, by omega⟩ (by omega) (by omega)).mono ?_; rintro e w' ⟨rfl, rfl⟩))
            go_roundw
            case rel =>
              go_light
              refine ⟨k + 1, G, B % G, D, by omega, by go_num, rfl, rfl, rfl, ?_, ?_, ?_⟩
              · show _ = _
                rw [hst'.out, hred.out]
              · have := hgood'.out
                rwa [hred.out] at this
              · show Below _ _ _
                have hB := HB.out
                repeat (first | with_reducible exact Below.refl _ _ | with_reducible assumption | ((with_reducible refine blA ?_ ?_); (focus (first | omega | (simp <;> omega)))) | (with_reducible refine blD ?_) | (with_reducible refine blN ?_) | ((with_reducible refine blS ?_ ?_); (focus (first | omega | (simp <;> omega)))) | ((with_reducible refine blT (by assumption) ?_ ?_); (focus (first | omega | (simp <;> omega)))))
            case measure => simp [intOf]; omega
        · obtain ⟨⟨f1, f2⟩, ⟨f3, f4⟩, ⟨f5, f6⟩, ⟨f7, f8⟩, ⟨f9, f10⟩, hnext⟩ := h_facts HS.out hinv hy
          have hlt2 := Lib.hid (rem_lt D hy)
          have heq2 := Lib.hid (eucI_step a B D X hy)
          have a0 := HG.out.a0
          have a1 := HG.out.a1
          by_cases ha : a = 0
          · subst ha
            have hred : red 0 (B - D.tdiv y * X) = B - D.tdiv y * X := by simp [red]
            rw [hred] at hnext
            have HR := Lib.hid hred
            have HX := Lib.hid hnext
            clear hred hnext hinv
            go_wp2
            go_round
            case rel =>
              go_light
              exact ⟨X, y, _, _, rfl, rfl, rfl, rfl, HX.out, by show _ = _; rw [← heq.out, heq2.out, HR.out]⟩
            case measure => exact hlt2.out
          · have hred : red a (B - D.tdiv y * X) = (B - D.tdiv y * X) % a := by simp [red, ha]
            rw [hred] at hnext
            have HR := Lib.hid hred
            have HX := Lib.hid hnext
            clear hred hnext hinv
            go_wp2_with (go_at_call 78; refine (mod_any _ _ _ ⟨by omega, by omega⟩ (by omega) (by omega)).mono ?_; rintro e w' ⟨rfl, rfl⟩)
            go_round
            case rel =>
              go_light
              exact ⟨X, y, _, _, rfl, rfl, rfl, rfl, HX.out, by show _ = _; rw [← heq.out, heq2.out, HR.out]⟩
            case measure => exact hlt2.out
    · have hkl : k = l.length := by omega
      have hfin : Hid (l.foldl hStep (0, 0, 0) = (a, b, d)) := by
        show _ = _
        rw [← hst.out, hkl, List.take_of_length_le (Nat.le_refl _)]
      obtain ⟨a0, a1, ⟨b1, b2⟩, ⟨d1, d2⟩, hr⟩ := hgood
      clear hr
      have HB' := HB.out
      by_cases ha : a = 0
      · subst ha
        go_wp2
        (refine bodyPost_ret (v := .tuple #[.int .i64 0, .int .i64 0, .int .i64 0, .bool false]) ?_ rfl ⟨?_, ?_⟩; (focus (go_light; first | (simp [results, Try.results104, go_sem, *]; done) | (simp (disch := first | omega | (simp <;> omega) | (refine isSome_of ?_ ?_; (focus ((repeat (first | ((with_reducible refine (cell_alloc_old _ _ _ _ ?_).trans ?_); (focus (first | omega | (simp <;> omega)))) | ((with_reducible refine (bG (by assumption) ?_).trans ?_); (focus (first | omega | (simp <;> omega)))))); exact rfl)); simp [go_sem]) | fail) [results, Try.results104, go_sem, *]; done))); (focus (go_light; rw [hfin.out]; simp [hR1, hR2, hR3, hRok])); repeat (first | with_reducible exact Below.refl _ _ | with_reducible assumption | ((with_reducible refine blA ?_ ?_); (focus (first | omega | (simp <;> omega)))) | (with_reducible refine blD ?_) | (with_reducible refine blN ?_) | ((with_reducible refine blS ?_ ?_); (focus (first | omega | (simp <;> omega)))) | ((with_reducible refine blT (by assumption) ?_ ?_); (focus (first | omega | (simp <;> omega))))))
      · by_cases hd : d = 0
        · subst hd
          go_wp2
          (refine bodyPost_ret (v := .tuple #[.int .i64 0, .int .i64 0, .int .i64 0, .bool false]) ?_ rfl ⟨?_, ?_⟩; (focus (go_light; first | (simp [results, Try.results104, go_sem, *]; done) | (simp (disch := first | omega | (simp <;> omega) | (refine isSome_of ?_ ?_; (focus ((repeat (first | ((with_reducible refine (cell_alloc_old _ _ _ _ ?_).trans ?_); (focus (first | omega | (simp <;> omega)))) | ((with_reducible refine (bG (by assumption) ?_).trans ?_); (focus (first | omega | (simp <;> omega)))))); exact rfl)); simp [go_sem]) | fail) [results, Try.results104, go_sem, *]; done))); (focus (go_light; rw [hfin.out]; simp [hR1, hR2, hR3, hRok, ha])); repeat (first | with_reducible exact Below.refl _ _ | with_reducible assumption | ((with_reducible refine blA ?_ ?_); (focus (first | omega | (simp <;> omega)))) | (with_reducible refine blD ?_) | (with_reducible refine blN ?_) | ((with_reducible refine blS ?_ ?_); (focus (first | omega | (simp <;> omega)))) | ((with_reducible refine blT (by assumption) ?_ ?_); (focus (first | omega | (simp <;> omega))))))
        · have ha' : (a == 0) = false := by simp [ha]
          have hd' : (d == 0) = false := by simp [hd]
          by_cases hn : d < 0
          · go_wp2_with (go_at_call 78; refine (mod_any _ _ _ ⟨by omega, by omega⟩ (by omega) (by omega)).mono ?_; rintro e w' ⟨rfl, rfl⟩)
            (refine bodyPost_ret (v := .tuple #[.int .i64 a, .int .i64 ((-b) % a), .int .i64 (-d), .bool true]) ?_ rfl ⟨?_, ?_⟩; (focus (go_light; first | (simp [results, Try.results104, go_sem, *]; done) | (simp (disch := first | omega | (simp <;> omega) | (refine isSome_of ?_ ?_; (focus ((repeat (first | ((with_reducible refine (cell_alloc_old _ _ _ _ ?_).trans ?_); (focus (first | omega | (simp <;> omega)))) | ((with_reducible refine (bG (by assumption) ?_).trans ?_); (focus (first | omega | (simp <;> omega)))))); exact rfl)); simp [go_sem]) | fail) [results, Try.results104, go_sem, *]; done))); (focus (go_light; rw [hfin.out]; simp [hR1, hR2, hR3, hRok, ha, hd, hn])); repeat (first | with_reducible exact Below.refl _ _ | with_reducible assumption | ((with_reducible refine blA ?_ ?_); (focus (first | omega | (simp <;> omega)))) | (with_reducible refine blD ?_) | (with_reducible refine blN ?_) | ((with_reducible refine blS ?_ ?_); (focus (first | omega | (simp <;> omega)))) | ((with_reducible refine blT (by assumption) ?_ ?_); (focus (first | omega | (simp <;> omega))))))
          · go_wp2
            (refine bodyPost_ret (v := .tuple #[.int .i64 a, .int .i64 b, .int .i64 d, .bool true]) ?_ rfl ⟨?_, ?_⟩; (focus (go_light; first | (simp [results, Try.results104, go_sem, *]; done) | (simp (disch := first | omega | (simp <;> omega) | (refine isSome_of ?_ ?_; (focus ((repeat (first | ((with_reducible refine (cell_alloc_old _ _ _ _ ?_).trans ?_); (focus (first | omega | (simp <;> omega)))) | ((with_reducible refine (bG (by assumption) ?_).trans ?_); (focus (first | omega | (simp <;> omega)))))); exact rfl)); simp [go_sem]) | fail) [results, Try.results104, go_sem, *]; done))); (focus (go_light; rw [hfin.out]; simp [hR1, hR2, hR3, hRok, ha, hd]; exact ⟨fun h => absurd h (by omega), fun h => absurd h (by omega)⟩)); repeat (first | with_reducible exact Below.refl _ _ | with_reducible assumption | ((with_reducible refine blA ?_ ?_); (focus (first | omega | (simp <;> omega)))) | (with_reducible refine blD ?_) | (with_reducible refine blN ?_) | ((with_reducible refine blS ?_ ?_); (focus (first | omega | (simp <;> omega)))) | ((with_reducible refine blT (by assumption) ?_ ?_); (focus (first | omega | (simp <;> omega))))))
end Go.Proofs.Ytladcjoiaoaedaa
