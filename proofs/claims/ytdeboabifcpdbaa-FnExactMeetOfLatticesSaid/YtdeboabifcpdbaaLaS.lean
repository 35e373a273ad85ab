/-
  The reference's way to a lattice's normal form, reduced at each step: the walk.
-/
import Derived.Test.YtdeboabifcpdbaaSpan
namespace Go.Proofs.Ytdeboabifcpdbaa
open Go.RowKit
attribute [local simp, local go_sem] past_cell past_frozen past_tape
theorem k4_sign {D : Int} (h : K4 D) : K4 (if D < 0 then -D else D) := by
  obtain ⟨a, b⟩ := h
  split <;> exact ⟨by omega, by omega⟩
theorem k4_sign2 {D B : Int} (h : K4 B) : K4 (if D < 0 then -B else B) := by
  obtain ⟨a, b⟩ := h
  split <;> exact ⟨by omega, by omega⟩
theorem k4_red {g B : Int} (h : K4 B) (h0 : 0 ≤ g) (h1 : g ≤ 4000000000000000000) : K4 (red g B) := by
  unfold red
  split
  · exact h
  · rename_i hg
    have := Int.emod_nonneg B hg
    have := Int.emod_lt_of_pos B (show 0 < g by omega)
    exact ⟨by omega, by omega⟩
theorem goodL_step {n U V : Int} {v : Int × Int} (h : GoodS n U V) (hf : FitI 0 (n, U, V) v) : GoodS (lStep (n, U, V) v).1 (lStep (n, U, V) v).2.1 (lStep (n, U, V) v).2.2 := by
  obtain ⟨q0, q1, q2, q3⟩ := goodS_step h hf
  exact ⟨q0, q1, k4_red (k4_sign2 q2) q0 q1, k4_sign q3⟩
set_option maxRecDepth 100000 in
set_option maxHeartbeats 4000000 in
theorem laHermite_any (l : List (Int × Int)) (g c : Nat) (w : World) (hl : l.length ≤ 1000) (hg : g < w.heap.size) (hc : ∀ k, k < l.length → w.cell? ⟨g, k * 2, none⟩ = some (.int .i64 ((l.getD k (0, 0)).1)) ∧ w.cell? ⟨g, k * 2 + 1, none⟩ = some (.int .i64 ((l.getD k (0, 0)).2)))
    (hfit : ∀ k, k < l.length → FitI 0 ((l.take k).foldl lStep (0, 0, 0)) (l.getD k (0, 0))) :
    Calls Try.prog 80 #[.slice (some ⟨g, 0, none⟩) l.length c] w fun en w' => en = .returned (.agg #[.int .i64 ((l.foldl lStep (0, 0, 0)).1), .int .i64 ((l.foldl lStep (0, 0, 0)).2.1), .int .i64 ((l.foldl lStep (0, 0, 0)).2.2)]) ∧ Below w.heap.size w w' := by
  have HC := Lib.hid hc
  have HF := Lib.hid hfit
  clear hc hfit
  go_enter Try.func80, Try.ntmps80
  go_wp2
  go_loopw [3, 11] (fun sn i wr => ∃ k : Nat, ∃ n U V : Int, k ≤ l.length ∧ i = .int .i64 (k : Int) ∧ sn = .int .i64 n ∧ Hid ((l.take k).foldl lStep (0, 0, 0) = (n, U, V)) ∧ GoodS n U V ∧ One w wr (w.heap.size + 1) U V ∧ Hid (∀ o, wr.cell? ⟨w.heap.size, o, none⟩ = (#[.int .i64 0, .int .i64 0, .int .i64 0] : Array Value)[o]?) ∧ Hid (∀ o, wr.frozen? ⟨w.heap.size, o, none⟩ = false)) (fun _ i _ => l.length - (intOf i).toNat)
  case atStart =>
    refine ⟨0, 0, 0, 0, Nat.zero_le _, rfl, rfl, rfl, ⟨by omega, by omega, ⟨by omega, by omega⟩, ⟨by omega, by omega⟩⟩, ?_, ?_, ?_⟩
    · refine ⟨fun o => by simp [go_sem], fun o => by simp [go_sem], by omega, by simp, ?_⟩
      repeat (first | with_reducible exact Below.refl _ _ | with_reducible assumption | ((with_reducible refine blA ?_ ?_); (focus (first | omega | (simp <;> omega)))) | (with_reducible refine blD ?_) | (with_reducible refine blN ?_) | ((with_reducible refine blS ?_ ?_); (focus (first | omega | (simp <;> omega)))) | ((with_reducible refine blT (by assumption) ?_ ?_); (focus (first | omega | (simp <;> omega)))))
    · show ∀ o, _ = _
      intro o; simp [go_sem]
    · show ∀ o, _ = _
      intro o; simp [go_sem]
  case round =>
    obtain ⟨k, n', U', V', hk, rfl, rfl, hst, hgood, hone, hR, hRf⟩ := hrel
    obtain ⟨wo, rfl⟩ : ∃ wo : World, wo = wr := ⟨_, rfl⟩
    have hzo := hone.sz
    by_cases hlt : k < l.length
    · have hcell := HC.out k hlt
      have hf := HF.out k hlt
      have HN := Lib.hid (take_next l lStep (0, 0, 0) k hlt)
      rw [hst.out] at hf
      generalize l.getD k (0, 0) = v at *
      obtain ⟨x0, y0⟩ := v
      have hc1 : wo.cell? ⟨g, k * 2, none⟩ = some (.int .i64 x0) := by rw [bG hone.below hg]; exact hcell.1
      have hc2 : wo.cell? ⟨g, k * 2 + 1, none⟩ = some (.int .i64 y0) := by rw [bG hone.below hg]; exact hcell.2
      have hz := hone.below.size
      have hg' : g < wo.heap.size := by omega
      obtain ⟨Y, S, M, hS, hI⟩ := hf
      have HS := Lib.hid hS
      have HI := Lib.hid hI
      have HG := Lib.hid hgood
      have HO := Lib.hid hone
      clear hcell hS hI hgood hone
      go_wp2
      go_loopw [7] (fun _ wr => ∃ B D X y : Int, Hid (Two w wr (w.heap.size + 1) wo.heap.size B D X y) ∧ HInv 0 Y S M B D X y ∧ Hid (eucS y.natAbs B D X y = eucS y0.natAbs U' V' x0 y0) ∧ Hid (∀ o, wr.cell? ⟨w.heap.size, o, none⟩ = (#[.int .i64 0, .int .i64 0, .int .i64 0] : Array Value)[o]?) ∧ Hid (∀ o, wr.frozen? ⟨w.heap.size, o, none⟩ = false)) (fun _ wr => (intOf ((wr.cell? ⟨wo.heap.size, 1, none⟩).getD undef)).natAbs)
      case atStart =>
        refine ⟨U', V', x0, y0, Two.start HO.out x0 y0 _, HI.out, rfl, ?_, ?_⟩
        · show ∀ o, _ = _
          intro o
          rw [cell_alloc_old _ _ _ _ (by omega), hR.out]
        · show ∀ o, _ = _
          intro o
          rw [frozen_alloc_old _ _ _ _ (by omega), hRf.out]
      case round =>
        obtain ⟨B, D, X, y, htwo, hinv, heq, hR2, hRf2⟩ := hrel
        have hQ := htwo.out.hQ
        have hQf := htwo.out.hQf
        have hV := htwo.out.one.hV
        have hVf := htwo.out.one.hVf
        have hszQ := htwo.out.sz
        have hszV := htwo.out.one.sz
        by_cases hy : y = 0
        · subst hy
          have hend : Hid (eucS y0.natAbs U' V' x0 y0 = (B, D, X)) := by show _ = _; rw [← heq.out]; rfl
          obtain ⟨kX1, kX2⟩ := hinv.hx.k4 HS.out.M4
          have jX : J64 X := ⟨by omega, by omega⟩
          have jA : J64 n' := ⟨by have := HG.out.n0; omega, by have := HG.out.n1; omega⟩
          have hstep : Hid (lStep (n', U', V') (x0, y0) = ((Int.gcd n' X : Int), red (Int.gcd n' X : Int) (if D < 0 then -B else B), if D < 0 then -D else D)) := by
            show _ = _
            simp only [lStep, hend.out]
          have hgood' : Hid (GoodS (Int.gcd n' X : Int) (red (Int.gcd n' X : Int) (if D < 0 then -B else B)) (if D < 0 then -D else D)) := by
            have := goodL_step (v := (x0, y0)) HG.out ⟨Y, S, M, HS.out, HI.out⟩
            rwa [hstep.out] at this
          have hst' : Hid ((l.take (k + 1)).foldl lStep (0, 0, 0) = ((Int.gcd n' X : Int), red (Int.gcd n' X : Int) (if D < 0 then -B else B), if D < 0 then -D else D)) := by
            show _ = _
            rw [HN.out, hst.out, hstep.out]
          obtain ⟨kB1, kB2⟩ := hinv.hb.k4 HS.out.M4
          obtain ⟨kD1, kD2⟩ := hinv.hd.k4 HS.out.Y4
          clear hend hstep
          by_cases hD : D < 0
          · rw [if_pos hD, if_pos hD] at hgood' hst'
            by_cases hg0 : (Int.gcd n' X : Int) = 0
            · have hgn : ¬ 0 < (Int.gcd n' X : Int) := by omega
              rw [hg0] at hgood' hst'
              simp only [red, if_true] at hgood' hst'
              go_wp2_with (first | (go_at_call 60; refine (nuGcd_any _ _ _ jA jX).mono ?_; rintro e w' ⟨rfl, nq, rfl⟩) | (go_at_call 62; refine (nuMod_any _ _ _ ⟨by omega, by omega⟩ (by omega) (by omega)).mono ?_; rintro e w' ⟨rfl, rfl⟩))
              go_roundw
              case rel =>
                go_light
                refine ⟨k + 1, _, _, _, by omega, by go_num, by (first | rfl | rw [hg0]), hst'.out, hgood'.out, One.set (below_drewN (Below.refl _ _) _) htwo.out.one _ _, ?_, ?_⟩
                · show ∀ o, _ = _
                  intro o
                  have hne : ¬ w.heap.size + 1 = w.heap.size := by omega
                  simp [go_sem, hR2.out]
                · show ∀ o, _ = _
                  intro o
                  simp [go_sem, hRf2.out]
              case measure => simp [intOf]; omega
            · have hgp : 0 < (Int.gcd n' X : Int) := by omega
              have hgb : (Int.gcd n' X : Int) ≤ 4000000000000000000 := hgood'.out.n1
              simp only [red, if_neg hg0] at hgood' hst'
              go_wp2_with (first | (go_at_call 60; refine (nuGcd_any _ _ _ jA jX).mono ?_; rintro e w' ⟨rfl, nq, rfl⟩) | (go_at_call 62; refine (nuMod_any _ _ _ ⟨by omega, by omega⟩ (by omega) (by omega)).mono ?_; rintro e w' ⟨rfl, rfl⟩))
              all_goals first
                | (go_roundw
                   case rel =>
                     go_light
                     refine ⟨k + 1, _, _, _, by omega, by go_num, by (first | rfl | rw [hg0]), hst'.out, hgood'.out, One.set0 (Below.refl _ _) (One.set (below_drewN (Below.refl _ _) _) htwo.out.one _ _) _, ?_, ?_⟩
                     · show ∀ o, _ = _
                       intro o
                       have hne : ¬ w.heap.size + 1 = w.heap.size := by omega
                       simp [go_sem, hR2.out]
                     · show ∀ o, _ = _
                       intro o
                       simp [go_sem, hRf2.out]
                   case measure => simp [intOf]; omega)
                | (exfalso; omega)
                | (exfalso; simp_all; done)
                | (exfalso; simp_all; omega)
          · rw [if_neg hD, if_neg hD] at hgood' hst'
            by_cases hg0 : (Int.gcd n' X : Int) = 0
            · have hgn : ¬ 0 < (Int.gcd n' X : Int) := by omega
              rw [hg0] at hgood' hst'
              simp only [red, if_true] at hgood' hst'
              go_wp2_with (first | (go_at_call 60; refine (nuGcd_any _ _ _ jA jX).mono ?_; rintro e w' ⟨rfl, nq, rfl⟩) | (go_at_call 62; refine (nuMod_any _ _ _ ⟨by omega, by omega⟩ (by omega) (by omega)).mono ?_; rintro e w' ⟨rfl, rfl⟩))
              go_roundw
              case rel =>
                go_light
                refine ⟨k + 1, _, _, _, by omega, by go_num, by (first | rfl | rw [hg0]), hst'.out, hgood'.out, One.later htwo.out.one (below_drewN (Below.refl _ _) _), ?_, ?_⟩
                · show ∀ o, _ = _
                  intro o
                  have hne : ¬ w.heap.size + 1 = w.heap.size := by omega
                  simp [go_sem, hR2.out]
                · show ∀ o, _ = _
                  intro o
                  simp [go_sem, hRf2.out]
              case measure => simp [intOf]; omega
            · have hgp : 0 < (Int.gcd n' X : Int) := by omega
              have hgb : (Int.gcd n' X : Int) ≤ 4000000000000000000 := hgood'.out.n1
              simp only [red, if_neg hg0] at hgood' hst'
              go_wp2_with (first | (go_at_call 60; refine (nuGcd_any _ _ _ jA jX).mono ?_; rintro e w' ⟨rfl, nq, rfl⟩) | (go_at_call 62; refine (nuMod_any _ _ _ ⟨by omega, by omega⟩ (by omega) (by omega)).mono ?_; rintro e w' ⟨rfl, rfl⟩))
              all_goals first
                | (go_roundw
                   case rel =>
                     go_light
                     refine ⟨k + 1, _, _, _, by omega, by go_num, by (first | rfl | rw [hg0]), hst'.out, hgood'.out, One.set0 (below_drewN (Below.refl _ _) _) htwo.out.one _, ?_, ?_⟩
                     · show ∀ o, _ = _
                       intro o
                       have hne : ¬ w.heap.size + 1 = w.heap.size := by omega
                       simp [go_sem, hR2.out]
                     · show ∀ o, _ = _
                       intro o
                       simp [go_sem, hRf2.out]
                   case measure => simp [intOf]; omega)
                | (exfalso; omega)
                | (exfalso; simp_all; done)
                | (exfalso; simp_all; omega)
        · obtain ⟨⟨f1, f2⟩, ⟨f3, f4⟩, ⟨f5, f6⟩, ⟨f7, f8⟩, ⟨f9, f10⟩, hnext⟩ := h_facts HS.out hinv hy
          have hlt2 := Lib.hid (rem_lt D hy)
          have heq2 := Lib.hid (eucS_step B D X hy)
          have HX := Lib.hid hnext
          clear hnext hinv
          go_wp2_with fail
          go_region
          go_wp2
          go_roundw
          case rel =>
            go_light
            have hnx := HX.out
            rw [show red 0 (B - D.tdiv y * X) = B - D.tdiv y * X by simp [red]] at hnx
            refine ⟨X, y, _, _, (Two.next (Below.refl _ _) htwo.out _ _).later (Below.refl _ _).drew, hnx, by show _ = _; rw [← heq.out, heq2.out], ?_, ?_⟩
            · show ∀ o, _ = _
              intro o
              have hne : ¬ w.heap.size = wo.heap.size := by omega
              have hne2 : ¬ wo.heap.size = w.heap.size := by omega
              rw [World.cell?_drew, set_other _ _ _ _ _ _ (by omega), set_other _ _ _ _ _ _ (by omega), set_other _ _ _ _ _ _ (by omega), set_other _ _ _ _ _ _ (by omega), hR2.out]
            · show ∀ o, _ = _
              intro o
              simp [go_sem, hRf2.out]
          case measure =>
            rw [((Two.next (Below.refl _ _) htwo.out _ _).later (Below.refl _ _).drew).hQ, hQ]
            exact hlt2.out
    · have hkl : k = l.length := by omega
      have e := hst.out
      rw [hkl, List.take_of_length_le (Nat.le_refl _)] at e
      have HE := Lib.hid e
      obtain ⟨n0, n1, ⟨u1, u2⟩, ⟨v1, v2⟩⟩ := hgood
      have hV := hone.hV
      have hVf := hone.hVf
      have hbelow := hone.below
      have HO := Lib.hid hone
      have hRc := hR.out
      have hRfc := hRf.out
      clear hone e
      go_wp2
      (refine bodyPost_ret (v := .agg #[.int .i64 n', .int .i64 U', .int .i64 V']) ?_ rfl ⟨?_, ?_⟩; (focus (go_light; first | (simp [results, Try.results80, go_sem, *]; done) | (simp (disch := first | omega | (simp <;> omega) | (refine isSome_of ?_ ?_; (focus ((repeat (first | ((with_reducible refine (cell_alloc_old _ _ _ _ ?_).trans ?_); (focus (first | omega | (simp <;> omega)))) | ((with_reducible refine (bG (by assumption) ?_).trans ?_); (focus (first | omega | (simp <;> omega)))))); exact rfl)); simp [go_sem]) | fail) [results, Try.results80, go_sem, *]; done))); (focus (go_light; rw [HE.out])); repeat (first | with_reducible exact Below.refl _ _ | with_reducible assumption | ((with_reducible refine blA ?_ ?_); (focus (first | omega | (simp <;> omega)))) | (with_reducible refine blD ?_) | (with_reducible refine blN ?_) | ((with_reducible refine blS ?_ ?_); (focus (first | omega | (simp <;> omega)))) | ((with_reducible refine blT (by assumption) ?_ ?_); (focus (first | omega | (simp <;> omega))))))
end Go.Proofs.Ytdeboabifcpdbaa
