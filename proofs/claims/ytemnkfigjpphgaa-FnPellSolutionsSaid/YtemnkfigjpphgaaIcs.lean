/-
  The cycle of a form, walked in the reference.
-/
import Derived.Test.YtemnkfigjpphgaaIcy
namespace Go.Proofs.Ytemnkfigjpphgaa
open Go.RowKit
attribute [local simp, local go_sem] past_cell past_frozen past_tape
set_option maxRecDepth 100000 in
set_option maxHeartbeats 8000000 in
theorem cyCycle_any (r d : Int) (n : Nat) (a b c : Int) (w : World) (hi : CI r d n (a, b, c) 0) :
    Calls Try.prog 77 #[.agg #[.int .i64 a, .int .i64 b, .int .i64 c]] w fun e w' => (∃ v, e = .returned v ∧ Rw w.heap.size 36 3 c3 w' v (cyc r n (a, b, c))) ∧ Below w.heap.size w w' := by
  have HI := Lib.hid hi
  have hmv := Lib.hid fun w0 => cyMove_any r d a b c w0 hi.gd
  have hac := Lib.hid fun w0 => foActN_any r d a b c w0 hi.gd
  have hN1 : Hid (nbg r (a, b, c) = nbn r 1 (a, b, c)) := Lib.hid (hi.cy.nbg hi.gd.root).1
  rw [hN1.out] at hac
  obtain ⟨⟨N1, N2, N3, N4⟩, hNe⟩ : ∃ N, nmg r (a, b, c) = N := ⟨_, rfl⟩
  obtain ⟨⟨G1, G2, G3⟩, hGe⟩ : ∃ G, nbn r 1 (a, b, c) = G := ⟨_, rfl⟩
  rw [hNe] at hmv hac
  rw [hGe] at hac
  have HGE := Lib.hid hGe
  simp only at hmv hac
  clear hi hNe hGe
  go_enter Try.func77, Try.ntmps77
  go_wp2_with fail
  refine region_mixed 4 (by kernel_rfl) (by kernel_rfl) (by kernel_rfl) ?_
  apply Exists.intro
  refine ⟨fun w0 hw0 => ?_, ?_⟩
  · obtain ⟨hC0, hF0⟩ := bcell hw0
    have hS0 := hw0.size
    (try simp at hS0)
    (try have hS0_w0 : w.heap.size < w0.heap.size := by omega)
    (try have hS0_w1 : w.heap.size + 1 < w0.heap.size := by omega)
    (try have hS0_w2 : w.heap.size + 1 + 1 < w0.heap.size := by omega)
    (try have hS0_w3 : w.heap.size + 1 + 1 + 1 < w0.heap.size := by omega)
    (try have hS0_w4 : w.heap.size + 1 + 1 + 1 + 1 < w0.heap.size := by omega)
    (try have hL0_w0 : w.heap.size ≤ w0.heap.size := by omega)
    (try have hL0_w1 : w.heap.size + 1 ≤ w0.heap.size := by omega)
    (try have hL0_w2 : w.heap.size + 1 + 1 ≤ w0.heap.size := by omega)
    (try have hL0_w3 : w.heap.size + 1 + 1 + 1 ≤ w0.heap.size := by omega)
    (try have hL0_w : w.heap.size ≤ w0.heap.size + 1 := by omega)
    (try have hM0_1 : w.heap.size < w0.heap.size + 1 := by omega)
    (try have hM0_2 : w.heap.size < w0.heap.size + 1 + 1 := by omega)
    (try have hM0_3 : w.heap.size < w0.heap.size + 1 + 1 + 1 := by omega)
    simp only [List.take_succ_cons, List.take_zero]
    repeat (first | go_big_quiet_skip | (go_big_quiet_want; go_big_quiet_op; first | go_big_quiet_on | (apply Exists.intro; refine ⟨fun _ => ?_, ?_⟩; (focus (first | (go_at_call 78; exact past_of (hmv.out _)) | (go_at_call 79; exact past_of (hac.out _)))); go_big_quiet_on)))
    refine wpQuiet_nil ?_
    rfl
  intro W hW hWz
  simp only [List.drop_succ_cons, List.drop_zero]
  refine eff_new #[.int .i64 0, .int .i64 0, .int .i64 0] 36 [.int .i64 G1, .int .i64 G2, .int .i64 G3] rfl rfl rfl rfl (fun _ => by simp [go_sem]) (cl_refl _) (fun wa wb hb => ?_) (fun w1 hV1 => ?_)
  · obtain ⟨hc, hf⟩ := bnew hb
    refine ⟨.skip, ?_, Or.inl rfl⟩
    simp [go_sem, setAll, Act.put, hc, hf]
  have hB1 := hW.trans (hV1.mono hW.size)
  obtain ⟨hC1, hF1⟩ := bcell hB1
  have hS1 := hB1.size
  (try simp at hS1)
  (try have hS1_w0 : w.heap.size < w1.heap.size := by omega)
  (try have hS1_w1 : w.heap.size + 1 < w1.heap.size := by omega)
  (try have hS1_w2 : w.heap.size + 1 + 1 < w1.heap.size := by omega)
  (try have hS1_w3 : w.heap.size + 1 + 1 + 1 < w1.heap.size := by omega)
  (try have hS1_w4 : w.heap.size + 1 + 1 + 1 + 1 < w1.heap.size := by omega)
  (try have hL1_w0 : w.heap.size ≤ w1.heap.size := by omega)
  (try have hL1_w1 : w.heap.size + 1 ≤ w1.heap.size := by omega)
  (try have hL1_w2 : w.heap.size + 1 + 1 ≤ w1.heap.size := by omega)
  (try have hL1_w3 : w.heap.size + 1 + 1 + 1 ≤ w1.heap.size := by omega)
  (try have hL1_w : w.heap.size ≤ w1.heap.size + 1 := by omega)
  (try have hM1_1 : w.heap.size < w1.heap.size + 1 := by omega)
  (try have hM1_2 : w.heap.size < w1.heap.size + 1 + 1 := by omega)
  (try have hM1_3 : w.heap.size < w1.heap.size + 1 + 1 + 1 := by omega)
  have hK : Cl W (w1.alloc (.cells #[.int .i64 G1, .int .i64 G2, .int .i64 G3] 36)) := (cl_of hV1).alloc _
  clear hK
  intro w2 hV2
  have hB2 := past_below hV2
  clear hV1 hV2 hW hWz
  obtain ⟨hC2, hF2⟩ := bcell hB2
  have hS2 := hB2.size
  (try simp at hS2)
  (try have hS2_w0 : w.heap.size < w2.heap.size := by omega)
  (try have hS2_w1 : w.heap.size + 1 < w2.heap.size := by omega)
  (try have hS2_w2 : w.heap.size + 1 + 1 < w2.heap.size := by omega)
  (try have hS2_w3 : w.heap.size + 1 + 1 + 1 < w2.heap.size := by omega)
  (try have hS2_w4 : w.heap.size + 1 + 1 + 1 + 1 < w2.heap.size := by omega)
  (try have hL2_w0 : w.heap.size ≤ w2.heap.size := by omega)
  (try have hL2_w1 : w.heap.size + 1 ≤ w2.heap.size := by omega)
  (try have hL2_w2 : w.heap.size + 1 + 1 ≤ w2.heap.size := by omega)
  (try have hL2_w3 : w.heap.size + 1 + 1 + 1 ≤ w2.heap.size := by omega)
  (try have hL2_w : w.heap.size ≤ w2.heap.size + 1 := by omega)
  (try have hM2_1 : w.heap.size < w2.heap.size + 1 := by omega)
  (try have hM2_2 : w.heap.size < w2.heap.size + 1 + 1 := by omega)
  (try have hM2_3 : w.heap.size < w2.heap.size + 1 + 1 + 1 := by omega)
  (try have hN2_1_00 : w1.heap.size < w2.heap.size := by omega)
  (try have hN2_1_01 : w1.heap.size < w2.heap.size + 1 := by omega)
  (try have hN2_1_02 : w1.heap.size < w2.heap.size + 1 + 1 := by omega)
  (try have hN2_1_10 : w1.heap.size + 1 < w2.heap.size := by omega)
  (try have hN2_1_11 : w1.heap.size + 1 < w2.heap.size + 1 := by omega)
  (try have hN2_1_12 : w1.heap.size + 1 < w2.heap.size + 1 + 1 := by omega)
  (try have hN2_1_20 : w1.heap.size + 1 + 1 < w2.heap.size := by omega)
  (try have hN2_1_21 : w1.heap.size + 1 + 1 < w2.heap.size + 1 := by omega)
  (try have hN2_1_22 : w1.heap.size + 1 + 1 < w2.heap.size + 1 + 1 := by omega)
  (try have hL2_1 : w1.heap.size ≤ w2.heap.size := by omega)
  (try have hS2_1 : w1.heap.size < w2.heap.size := by omega)
  (try have hS2_1' : w1.heap.size + 1 < w2.heap.size := by omega)
  simp only [Act.put, Act.eval, List.setIfInBounds_toArray, List.set_cons_zero, List.set_cons_succ]
  have hY : CB w w2 (.slice (some ⟨w.heap.size + 1, 0, none⟩) 1 1) w1.heap.size (a, b, c) (G1, G2, G3) [(a, b, c)] := by
    have h1f := ((((Blk.new w 36 #[.int .i64 a, .int .i64 b, .int .i64 c]).alloc _).below hB1).alloc _).below hB2
    have h1l := (((Rw.single (B := w.heap.size + 1) (w := w.alloc (.cells #[.int .i64 a, .int .i64 b, .int .i64 c] 36)) (a, b, c) (by simp)).later hB1).alloc (.cells #[.int .i64 G1, .int .i64 G2, .int .i64 G3] 36)).later hB2
    have h1b : Below w.heap.size w w1 := by repeat (first | with_reducible exact Below.refl _ _ | with_reducible assumption | ((with_reducible refine blA ?_ ?_); (focus (first | omega | (simp <;> omega)))) | (with_reducible refine blD ?_) | (with_reducible refine blN ?_) | ((with_reducible refine blS ?_ ?_); (focus (first | omega | (simp <;> omega)))) | ((with_reducible refine blT (by assumption) ?_ ?_); (focus (first | omega | (simp <;> omega)))))
    refine ⟨h1f, (Blk.new w1 _ _).below hB2, ?_, (h1b.alloc (by omega) _).trans (hB2.mono (by simp; omega)), by omega, ?_⟩
    · simpa using h1l
    · intro h hh
      simp [Value.ownBlock] at hh
      omega
  have HY := Lib.hid hY
  clear hB1 hB2 hC1 hC2 hF1 hF2 hY hS1 hS2 hS1_w0 hS1_w1 hL1_w0 hL1_w1 hL1_w2 hL1_w hM1_1 hM1_2 hM1_3 hS2_w0 hS2_w1 hS2_w2 hL2_w0 hL2_w1 hL2_w2 hL2_w3 hL2_w hM2_1 hM2_2 hM2_3
  obtain ⟨bb, hbb⟩ : ∃ bb, w1.heap.size = bb := ⟨_, rfl⟩
  rw [hbb] at HY
  go_wp2_with fail
  try rw [hbb]
  clear hbb
  go_loopw [3, 4] (fun v p wr => ∃ (k : Nat) (b1 : Nat) (g : Fm), p = .pointer (some ⟨b1, 0, none⟩) ∧ nbn r (k + 1) (a, b, c) = g ∧ Hid (CI r d n (a, b, c) k) ∧ Hid (CB w wr v b1 (a, b, c) g (cyc r (k + 1) (a, b, c)))) (fun v _ _ => n - (match v with | .slice _ l _ => l | _ => 0))
  case atStart =>
    exact ⟨0, bb, (G1, G2, G3), rfl, HGE.out, HI, HY⟩
  case round =>
    obtain ⟨k, b1, ⟨g1, g2, g3⟩, rfl, hge, hI, hR⟩ := hrel
    clear HY HGE HI
    have hlen := cyc_length r (k + 1) (a, b, c)
    have HLK := Lib.hid hI.out.lt
    have HN2 := Lib.hid hI.out.n2
    obtain ⟨va, vc, hv, hvc, _, _⟩ := hR.out.l.sees c3_len
    rw [hlen] at hv hvc
    subst hv
    have cf := hR.out.f.cell
    have cg := hR.out.g.cell
    have lf := hR.out.f.lt
    have lg := hR.out.g.lt
    have hbz := hR.out.bl.size
    simp only at cf cg
    by_cases hend : (g1, g2, g3) = (a, b, c)
    · have hkn : k + 1 = n := by
        have h1 := HLK.out
        rcases (show k + 1 < n ∨ k + 1 = n by omega) with h2 | h2
        · exact absurd (by rw [hge]; exact hend) (hI.out.first (k + 1) (by omega) h2)
        · exact h2
      have HKN := Lib.hid hkn
      simp only [Prod.mk.injEq] at hend
      obtain ⟨rfl, rfl, rfl⟩ := hend
      clear hkn hge hlen
      go_wp2_with fail
      go_ret
      exact ⟨⟨_, rfl, by rw [← HKN.out]; exact hR.out.l.mono (by omega)⟩, hR.out.bl⟩
    · have hlt : k + 1 < n := by
        have h1 := HLK.out
        rcases (show k + 1 < n ∨ k + 1 = n by omega) with h2 | h2
        · exact h2
        · exfalso
          apply hend
          rw [← hge, h2]
          exact hI.out.ret
      have HLT := Lib.hid hlt
      obtain ⟨c1, c2, c3'⟩ := hI.out.at_
      rw [hge] at c2 c3'
      have hmv1 := Lib.hid fun w0 => cyMove_any r d g1 g2 g3 w0 c2
      have hac1 := Lib.hid fun w0 => foActN_any r d g1 g2 g3 w0 c2
      rw [c3'] at hac1
      have HS : Hid (cyc r (k + 1 + 1) (a, b, c) = cyc r (k + 1) (a, b, c) ++ [(g1, g2, g3)]) := Lib.hid (by rw [cyc_succ, hge])
      obtain ⟨⟨P1, P2, P3, P4⟩, hPe⟩ : ∃ N, nmg r (g1, g2, g3) = N := ⟨_, rfl⟩
      obtain ⟨⟨X1, X2, X3⟩, hXe⟩ : ∃ G, nbn r (k + 1 + 1) (a, b, c) = G := ⟨_, rfl⟩
      rw [hPe] at hmv1 hac1
      rw [hXe] at hac1
      have HXE := Lib.hid hXe
      simp only at hmv1 hac1
      have HEND := Lib.hid hend
      have hne : g1 = a → g2 = b → ¬ g3 = c := fun h1 h2 h3 => HEND.out (by rw [h1, h2, h3])
      have hlen6 : (cyc r (k + 1) (a, b, c)).length ≤ 1000000 := by rw [hlen]; have := HN2.out; omega
      clear c1 c2 c3' hPe hXe hge hend hlt hlen
      have split3 : ¬ g1 = a ∨ (g1 = a ∧ ¬ g2 = b) ∨ (g1 = a ∧ g2 = b ∧ ¬ g3 = c) := by
        by_cases e1 : g1 = a
        · by_cases e2 : g2 = b
          · exact .inr (.inr ⟨e1, e2, hne e1 e2⟩)
          · exact .inr (.inl ⟨e1, e2⟩)
        · exact .inl e1
      have HBZ := Lib.hid hbz
      clear hne
      rcases split3 with e1 | ⟨e1, e2⟩ | ⟨e1, e2, e3⟩
      · go_wp2_with (at_builtin; go_loud (refine app_formI (hR.out.l.alloc _) (by rfl) _ _ _ (by rfl) (by kernel_rfl) (by rfl) _ (_, _, _) (by rfl) (heap_alloc_new _ _) hlen6 (by simp; omega) ?_))
        intro v3 x3 hr3 hg3 hat3
        rw [← HS.out] at hr3
        have hz3 := hg3.size
        simp at hz3
        have hf3 := (hR.out.f.alloc _).grown hg3 (fun e => by have := (hR.out.l.lt _ e.symm).1; omega)
        have hg3' := (hR.out.g.alloc _).grown hg3 (fun e => by have := hR.out.a _ e.symm; omega)
        have hb3 : Below w.heap.size w x3 := below_of_grown (hR.out.bl.alloc HBZ.out _) hg3 (by simp; omega) (fun g hg => by have := (hR.out.l.lt g hg).1; omega)
        have hbz3 := hb3.size
        obtain ⟨va3, vc3, hv3, _, _, _⟩ := hr3.sees c3_len
        rw [cyc_length] at hv3
        subst hv3
        have hl3 := fun h hh => (hr3.lt h hh).2
        have cg3 := hg3'.cell
        have cf3 := hf3.cell
        have lg3 := hg3'.lt
        have lf3 := hf3.lt
        simp only at cg3 cf3
        have HF3 := Lib.hid hf3
        have HB3 := Lib.hid hb3
        have HR3 := Lib.hid hr3
        have HL3 := Lib.hid hl3
        clear hg3 hat3 hR cf cg lf lg hr3 hf3 hg3' hb3 hl3 hlen6
        obtain ⟨y3, ey3, hyf, hyg, hyl, hyb, hyz⟩ : ∃ y3, x3.alloc (.cells #[.int .i64 g1, .int .i64 g2, .int .i64 g3] 36) = y3 ∧ Blk w.heap.size 36 #[.int .i64 a, .int .i64 b, .int .i64 c] y3 ∧ Blk x3.heap.size 36 #[.int .i64 g1, .int .i64 g2, .int .i64 g3] y3 ∧ Rw (w.heap.size + 1) 36 3 c3 y3 (.slice va3 (k + 1 + 1) vc3) (cyc r (k + 1 + 1) (a, b, c)) ∧ Below w.heap.size w y3 ∧ y3.heap.size = x3.heap.size + 1 := by
          exact ⟨_, rfl, HF3.out.alloc _, Blk.new x3 _ _, HR3.out.alloc _, HB3.out.alloc hbz3 _, by simp⟩
        have HYZ := Lib.hid hyz
        have cyg3 := hyg.cell
        have lyg3 := hyg.lt
        clear hyz
        go_wp2_with fail
        try rw [ey3]
        refine wp_region_past_tail 4 (by kernel_rfl) (by kernel_rfl) ?_
        simp only [List.take_succ_cons, List.take_zero, List.drop_succ_cons, List.drop_zero]
        repeat (first | go_big_quiet_skip | (go_big_quiet_want; go_big_quiet_op; first | go_big_quiet_on | (apply Exists.intro; refine ⟨fun _ => ?_, ?_⟩; (focus (first | (go_at_call 78; exact past_of (hmv1.out _)) | (go_at_call 79; exact past_of (hac1.out _)))); go_big_quiet_on)))
        refine wpQuiet_nil ?_
        intro w3 hw'
        have hB3 := past_below hw'
        clear hw'
        obtain ⟨hC3, hF3⟩ := bcell hB3
        have hS3 := hB3.size
        (try simp at hS3)
        (try have hS3_w0 : w.heap.size < w3.heap.size := by omega)
        (try have hS3_w1 : w.heap.size + 1 < w3.heap.size := by omega)
        (try have hS3_w2 : w.heap.size + 1 + 1 < w3.heap.size := by omega)
        (try have hS3_w3 : w.heap.size + 1 + 1 + 1 < w3.heap.size := by omega)
        (try have hS3_w4 : w.heap.size + 1 + 1 + 1 + 1 < w3.heap.size := by omega)
        (try have hS3_1 : w1.heap.size < w3.heap.size := by omega)
        (try have hS3_2 : w2.heap.size < w3.heap.size := by omega)
        (try have hS3_1' : w1.heap.size + 1 < w3.heap.size := by omega)
        (try have hS3_2' : w2.heap.size + 1 < w3.heap.size := by omega)
        obtain ⟨x4, hx4⟩ : ∃ x, w3 = x := ⟨_, rfl⟩
        have hB4 := hB3
        rw [hx4] at hB4 ⊢
        have hf4 := hyf.below hB4
        have hg4 := hyg.below hB4
        have hl4 := hyl.later hB4
        have hb4 : Below w.heap.size w x4 := hyb.trans (hB4.mono hyb.size)
        have hz4 := hB4.size
        rw [HYZ.out] at hz4
        clear cyg3 lyg3 HYZ hyf hyg hyl hyb hB4 ey3 cg3 cf3
        have cg4 := hg4.cell
        have fg4 := hg4.froz
        obtain ⟨x5, e5, k5, z5, g5⟩ := hg4.set3 (.int .i64 X1) (.int .i64 X2) (.int .i64 X3)
        have hR5 : CB w x5 (.slice va3 (k + 1 + 1) vc3) x3.heap.size (a, b, c) (X1, X2, X3) (cyc r (k + 1 + 1) (a, b, c)) :=
          ⟨hf4.grown g5 (by simp <;> omega), k5, hl4.apart g5 (by right; intro e; have := HL3.out _ e; omega), below_grown hb4 g5 (by omega) (by have := hb4.size; omega), by omega, HL3.out⟩
        have HR5 := Lib.hid hR5
        clear hf4 hl4 hb4 hz4 hR5 k5 hg4
        go_wp2_with fail
        go_roundw
        case rel =>
          go_light
          exact ⟨k + 1, x3.heap.size, (X1, X2, X3), rfl, HXE.out, Lib.hid ⟨hI.out.cy, hI.out.gd, by have := HLT.out; omega, hI.out.n2, hI.out.ret, hI.out.first⟩, HR5⟩
        case measure =>
          have := HLT.out
          simp
          omega
      · subst e1
        go_wp2_with (at_builtin; go_loud (refine app_formI (hR.out.l.alloc _) (by rfl) _ _ _ (by rfl) (by kernel_rfl) (by rfl) _ (_, _, _) (by rfl) (heap_alloc_new _ _) hlen6 (by simp; omega) ?_))
        intro v3 x3 hr3 hg3 hat3
        rw [← HS.out] at hr3
        have hz3 := hg3.size
        simp at hz3
        have hf3 := (hR.out.f.alloc _).grown hg3 (fun e => by have := (hR.out.l.lt _ e.symm).1; omega)
        have hg3' := (hR.out.g.alloc _).grown hg3 (fun e => by have := hR.out.a _ e.symm; omega)
        have hb3 : Below w.heap.size w x3 := below_of_grown (hR.out.bl.alloc HBZ.out _) hg3 (by simp; omega) (fun g hg => by have := (hR.out.l.lt g hg).1; omega)
        have hbz3 := hb3.size
        obtain ⟨va3, vc3, hv3, _, _, _⟩ := hr3.sees c3_len
        rw [cyc_length] at hv3
        subst hv3
        have hl3 := fun h hh => (hr3.lt h hh).2
        have cg3 := hg3'.cell
        have cf3 := hf3.cell
        have lg3 := hg3'.lt
        have lf3 := hf3.lt
        simp only at cg3 cf3
        have HF3 := Lib.hid hf3
        have HB3 := Lib.hid hb3
        have HR3 := Lib.hid hr3
        have HL3 := Lib.hid hl3
        clear hg3 hat3 hR cf cg lf lg hr3 hf3 hg3' hb3 hl3 hlen6
        obtain ⟨y3, ey3, hyf, hyg, hyl, hyb, hyz⟩ : ∃ y3, x3.alloc (.cells #[.int .i64 g1, .int .i64 g2, .int .i64 g3] 36) = y3 ∧ Blk w.heap.size 36 #[.int .i64 g1, .int .i64 b, .int .i64 c] y3 ∧ Blk x3.heap.size 36 #[.int .i64 g1, .int .i64 g2, .int .i64 g3] y3 ∧ Rw (w.heap.size + 1) 36 3 c3 y3 (.slice va3 (k + 1 + 1) vc3) (cyc r (k + 1 + 1) (g1, b, c)) ∧ Below w.heap.size w y3 ∧ y3.heap.size = x3.heap.size + 1 := by
          exact ⟨_, rfl, HF3.out.alloc _, Blk.new x3 _ _, HR3.out.alloc _, HB3.out.alloc hbz3 _, by simp⟩
        have HYZ := Lib.hid hyz
        have cyg3 := hyg.cell
        have lyg3 := hyg.lt
        clear hyz
        go_wp2_with fail
        try rw [ey3]
        refine wp_region_past_tail 4 (by kernel_rfl) (by kernel_rfl) ?_
        simp only [List.take_succ_cons, List.take_zero, List.drop_succ_cons, List.drop_zero]
        repeat (first | go_big_quiet_skip | (go_big_quiet_want; go_big_quiet_op; first | go_big_quiet_on | (apply Exists.intro; refine ⟨fun _ => ?_, ?_⟩; (focus (first | (go_at_call 78; exact past_of (hmv1.out _)) | (go_at_call 79; exact past_of (hac1.out _)))); go_big_quiet_on)))
        refine wpQuiet_nil ?_
        intro w4 hw'
        have hB4 := past_below hw'
        clear hw'
        obtain ⟨hC4, hF4⟩ := bcell hB4
        have hS4 := hB4.size
        (try simp at hS4)
        (try have hS4_w0 : w.heap.size < w4.heap.size := by omega)
        (try have hS4_w1 : w.heap.size + 1 < w4.heap.size := by omega)
        (try have hS4_w2 : w.heap.size + 1 + 1 < w4.heap.size := by omega)
        (try have hS4_w3 : w.heap.size + 1 + 1 + 1 < w4.heap.size := by omega)
        (try have hS4_w4 : w.heap.size + 1 + 1 + 1 + 1 < w4.heap.size := by omega)
        (try have hS4_1 : w1.heap.size < w4.heap.size := by omega)
        (try have hS4_2 : w2.heap.size < w4.heap.size := by omega)
        (try have hS4_3 : w3.heap.size < w4.heap.size := by omega)
        (try have hS4_1' : w1.heap.size + 1 < w4.heap.size := by omega)
        (try have hS4_2' : w2.heap.size + 1 < w4.heap.size := by omega)
        (try have hS4_3' : w3.heap.size + 1 < w4.heap.size := by omega)
        obtain ⟨x4, hx4⟩ : ∃ x, w4 = x := ⟨_, rfl⟩
        have hB4 := hB4
        rw [hx4] at hB4 ⊢
        have hf4 := hyf.below hB4
        have hg4 := hyg.below hB4
        have hl4 := hyl.later hB4
        have hb4 : Below w.heap.size w x4 := hyb.trans (hB4.mono hyb.size)
        have hz4 := hB4.size
        rw [HYZ.out] at hz4
        clear cyg3 lyg3 HYZ hyf hyg hyl hyb hB4 ey3 cg3 cf3
        have cg4 := hg4.cell
        have fg4 := hg4.froz
        obtain ⟨x5, e5, k5, z5, g5⟩ := hg4.set3 (.int .i64 X1) (.int .i64 X2) (.int .i64 X3)
        have hR5 : CB w x5 (.slice va3 (k + 1 + 1) vc3) x3.heap.size (g1, b, c) (X1, X2, X3) (cyc r (k + 1 + 1) (g1, b, c)) :=
          ⟨hf4.grown g5 (by simp <;> omega), k5, hl4.apart g5 (by right; intro e; have := HL3.out _ e; omega), below_grown hb4 g5 (by omega) (by have := hb4.size; omega), by omega, HL3.out⟩
        have HR5 := Lib.hid hR5
        clear hf4 hl4 hb4 hz4 hR5 k5 hg4
        go_wp2_with fail
        go_roundw
        case rel =>
          go_light
          exact ⟨k + 1, x3.heap.size, (X1, X2, X3), rfl, HXE.out, Lib.hid ⟨hI.out.cy, hI.out.gd, by have := HLT.out; omega, hI.out.n2, hI.out.ret, hI.out.first⟩, HR5⟩
        case measure =>
          have := HLT.out
          simp
          omega
      · subst e1
        subst e2
        go_wp2_with (at_builtin; go_loud (refine app_formI (hR.out.l.alloc _) (by rfl) _ _ _ (by rfl) (by kernel_rfl) (by rfl) _ (_, _, _) (by rfl) (heap_alloc_new _ _) hlen6 (by simp; omega) ?_))
        intro v3 x3 hr3 hg3 hat3
        rw [← HS.out] at hr3
        have hz3 := hg3.size
        simp at hz3
        have hf3 := (hR.out.f.alloc _).grown hg3 (fun e => by have := (hR.out.l.lt _ e.symm).1; omega)
        have hg3' := (hR.out.g.alloc _).grown hg3 (fun e => by have := hR.out.a _ e.symm; omega)
        have hb3 : Below w.heap.size w x3 := below_of_grown (hR.out.bl.alloc HBZ.out _) hg3 (by simp; omega) (fun g hg => by have := (hR.out.l.lt g hg).1; omega)
        have hbz3 := hb3.size
        obtain ⟨va3, vc3, hv3, _, _, _⟩ := hr3.sees c3_len
        rw [cyc_length] at hv3
        subst hv3
        have hl3 := fun h hh => (hr3.lt h hh).2
        have cg3 := hg3'.cell
        have cf3 := hf3.cell
        have lg3 := hg3'.lt
        have lf3 := hf3.lt
        simp only at cg3 cf3
        have HF3 := Lib.hid hf3
        have HB3 := Lib.hid hb3
        have HR3 := Lib.hid hr3
        have HL3 := Lib.hid hl3
        clear hg3 hat3 hR cf cg lf lg hr3 hf3 hg3' hb3 hl3 hlen6
        obtain ⟨y3, ey3, hyf, hyg, hyl, hyb, hyz⟩ : ∃ y3, x3.alloc (.cells #[.int .i64 g1, .int .i64 g2, .int .i64 g3] 36) = y3 ∧ Blk w.heap.size 36 #[.int .i64 g1, .int .i64 g2, .int .i64 c] y3 ∧ Blk x3.heap.size 36 #[.int .i64 g1, .int .i64 g2, .int .i64 g3] y3 ∧ Rw (w.heap.size + 1) 36 3 c3 y3 (.slice va3 (k + 1 + 1) vc3) (cyc r (k + 1 + 1) (g1, g2, c)) ∧ Below w.heap.size w y3 ∧ y3.heap.size = x3.heap.size + 1 := by
          exact ⟨_, rfl, HF3.out.alloc _, Blk.new x3 _ _, HR3.out.alloc _, HB3.out.alloc hbz3 _, by simp⟩
        have HYZ := Lib.hid hyz
        have cyg3 := hyg.cell
        have lyg3 := hyg.lt
        clear hyz
        go_wp2_with fail
        try rw [ey3]
        refine wp_region_past_tail 4 (by kernel_rfl) (by kernel_rfl) ?_
        simp only [List.take_succ_cons, List.take_zero, List.drop_succ_cons, List.drop_zero]
        repeat (first | go_big_quiet_skip | (go_big_quiet_want; go_big_quiet_op; first | go_big_quiet_on | (apply Exists.intro; refine ⟨fun _ => ?_, ?_⟩; (focus (first | (go_at_call 78; exact past_of (hmv1.out _)) | (go_at_call 79; exact past_of (hac1.out _)))); go_big_quiet_on)))
        refine wpQuiet_nil ?_
        intro w5 hw'
        have hB5 := past_below hw'
        clear hw'
        obtain ⟨hC5, hF5⟩ := bcell hB5
        have hS5 := hB5.size
        (try simp at hS5)
        (try have hS5_w0 : w.heap.size < w5.heap.size := by omega)
        (try have hS5_w1 : w.heap.size + 1 < w5.heap.size := by omega)
        (try have hS5_w2 : w.heap.size + 1 + 1 < w5.heap.size := by omega)
        (try have hS5_w3 : w.heap.size + 1 + 1 + 1 < w5.heap.size := by omega)
        (try have hS5_w4 : w.heap.size + 1 + 1 + 1 + 1 < w5.heap.size := by omega)
        (try have hS5_1 : w1.heap.size < w5.heap.size := by omega)
        (try have hS5_2 : w2.heap.size < w5.heap.size := by omega)
        (try have hS5_3 : w3.heap.size < w5.heap.size := by omega)
        (try have hS5_4 : w4.heap.size < w5.heap.size := by omega)
        (try have hS5_1' : w1.heap.size + 1 < w5.heap.size := by omega)
        (try have hS5_2' : w2.heap.size + 1 < w5.heap.size := by omega)
        (try have hS5_3' : w3.heap.size + 1 < w5.heap.size := by omega)
        (try have hS5_4' : w4.heap.size + 1 < w5.heap.size := by omega)
        obtain ⟨x4, hx4⟩ : ∃ x, w5 = x := ⟨_, rfl⟩
        have hB4 := hB5
        rw [hx4] at hB4 ⊢
        have hf4 := hyf.below hB4
        have hg4 := hyg.below hB4
        have hl4 := hyl.later hB4
        have hb4 : Below w.heap.size w x4 := hyb.trans (hB4.mono hyb.size)
        have hz4 := hB4.size
        rw [HYZ.out] at hz4
        clear cyg3 lyg3 HYZ hyf hyg hyl hyb hB4 ey3 cg3 cf3
        have cg4 := hg4.cell
        have fg4 := hg4.froz
        obtain ⟨x5, e5, k5, z5, g5⟩ := hg4.set3 (.int .i64 X1) (.int .i64 X2) (.int .i64 X3)
        have hR5 : CB w x5 (.slice va3 (k + 1 + 1) vc3) x3.heap.size (g1, g2, c) (X1, X2, X3) (cyc r (k + 1 + 1) (g1, g2, c)) :=
          ⟨hf4.grown g5 (by simp <;> omega), k5, hl4.apart g5 (by right; intro e; have := HL3.out _ e; omega), below_grown hb4 g5 (by omega) (by have := hb4.size; omega), by omega, HL3.out⟩
        have HR5 := Lib.hid hR5
        clear hf4 hl4 hb4 hz4 hR5 k5 hg4
        go_wp2_with fail
        go_roundw
        case rel =>
          go_light
          exact ⟨k + 1, x3.heap.size, (X1, X2, X3), rfl, HXE.out, Lib.hid ⟨hI.out.cy, hI.out.gd, by have := HLT.out; omega, hI.out.n2, hI.out.ret, hI.out.first⟩, HR5⟩
        case measure =>
          have := HLT.out
          simp
          omega
end Go.Proofs.Ytemnkfigjpphgaa
