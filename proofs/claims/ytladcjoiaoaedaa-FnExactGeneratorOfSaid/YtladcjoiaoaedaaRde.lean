/-
  The reference's reduction of a definite form, walked.
-/
import Derived.Test.YtladcjoiaoaedaaRdc
import Derived.Test.YtladcjoiaoaedaaIdeal
namespace Go.Proofs.Ytladcjoiaoaedaa
open Go.RowKit
attribute [local simp, local go_sem] past_cell past_frozen past_tape
/-- The blocks of the reduction. -/
structure RB (w wr : World) (a b c p q r s : Int) : Prop where
  f : Blk w.heap.size 58 #[.int .i64 a, .int .i64 b, .int .i64 c] wr
  g : Blk (w.heap.size + 1) 58 #[.int .i64 0, .int .i64 0, .int .i64 0] wr
  h : Blk (w.heap.size + 1 + 1) 98 #[.int .i64 0, .int .i64 0, .int .i64 0, .int .i64 0] wr
  m : Blk (w.heap.size + 1 + 1 + 1) 98 #[.int .i64 p, .int .i64 q, .int .i64 r, .int .i64 s] wr
  b : Below w.heap.size w wr
theorem RB.below {w wr w' : World} {a b c p q r s : Int} (h : RB w wr a b c p q r s) (hb : Below wr.heap.size wr w') : RB w w' a b c p q r s :=
  ⟨h.f.below hb, h.g.below hb, h.h.below hb, h.m.below hb, h.b.trans (hb.mono h.b.size)⟩
theorem RB.alloc {w wr : World} {a b c p q r s : Int} (h : RB w wr a b c p q r s) (o : Obj) : RB w (wr.alloc o) a b c p q r s :=
  ⟨h.f.alloc o, h.g.alloc o, h.h.alloc o, h.m.alloc o, h.b.alloc (by have := h.b.size; omega) _⟩
set_option maxRecDepth 100000 in
set_option maxHeartbeats 8000000 in
theorem reReduce_any (d : Int) (n : Int → Prop) (a b c : Int) (w : World) (hd : -2000 ≤ d) (hd3 : d ≤ -3) (hi : RI d n a b c) (hb2 : b ≤ 40000) :
    Calls Try.prog 105 #[.agg #[.int .i64 a, .int .i64 b, .int .i64 c]] w fun e w' => (∃ a' b' c' p q r s : Int, e = .returned (.tuple #[.agg #[.int .i64 a', .int .i64 b', .int .i64 c'], .agg #[.int .i64 p, .int .i64 q, .int .i64 r, .int .i64 s]]) ∧ RI d n a' b' c' ∧ redC a' b' c' = true) ∧ Below w.heap.size w w' := by
  go_enter Try.func105, Try.ntmps105
  go_wp2
  go_loopw [] (fun wr => ∃ a b c p q r s : Int, Hid (RB w wr a b c p q r s) ∧ Hid (RI d n a b c)) (fun wr => rMs (intOf ((wr.cell? ⟨w.heap.size, 0, none⟩).getD undef)) (intOf ((wr.cell? ⟨w.heap.size, 1, none⟩).getD undef)))
  case atStart =>
    refine ⟨a, b, c, 1, 0, 0, 1, ?_, Lib.hid hi⟩
    show RB _ _ _ _ _ _ _ _ _
    refine ⟨?_, ?_, ?_, ?_, ?_⟩
    · exact (((Blk.new _ _ _).alloc _).alloc _).alloc _
    · have := (((Blk.new (w.alloc (.cells #[.int .i64 a, .int .i64 b, .int .i64 c] 58)) 58 #[.int .i64 0, .int .i64 0, .int .i64 0]).alloc (.cells #[.int .i64 0, .int .i64 0, .int .i64 0, .int .i64 0] 98)).alloc (.cells #[.int .i64 1, .int .i64 0, .int .i64 0, .int .i64 1] 98))
      simpa using this
    · have := ((Blk.new ((w.alloc (.cells #[.int .i64 a, .int .i64 b, .int .i64 c] 58)).alloc (.cells #[.int .i64 0, .int .i64 0, .int .i64 0] 58)) 98 #[.int .i64 0, .int .i64 0, .int .i64 0, .int .i64 0]).alloc (.cells #[.int .i64 1, .int .i64 0, .int .i64 0, .int .i64 1] 98))
      simpa using this
    · have := Blk.new (((w.alloc (.cells #[.int .i64 a, .int .i64 b, .int .i64 c] 58)).alloc (.cells #[.int .i64 0, .int .i64 0, .int .i64 0] 58)).alloc (.cells #[.int .i64 0, .int .i64 0, .int .i64 0, .int .i64 0] 98)) 98 #[.int .i64 1, .int .i64 0, .int .i64 0, .int .i64 1]
      simpa using this
    · repeat (first | with_reducible exact Below.refl _ _ | with_reducible assumption | ((with_reducible refine blA ?_ ?_); (focus (first | omega | (simp <;> omega)))) | (with_reducible refine blD ?_) | (with_reducible refine blN ?_) | ((with_reducible refine blS ?_ ?_); (focus (first | omega | (simp <;> omega)))) | ((with_reducible refine blT (by assumption) ?_ ?_); (focus (first | omega | (simp <;> omega)))))
  case round =>
    obtain ⟨a, b, c, p, q, r, s, hR, hI⟩ := hrel
    clear hi
    have HR := hR.out
    have HI := hI.out
    have hJ : J64 a := ⟨by have := HI.a1; omega, by have := HI.a2; omega⟩
    have cf := HR.f.cell
    have ff := HR.f.froz
    have cg := HR.g.cell
    have fg := HR.g.froz
    have ch := HR.h.cell
    have fh := HR.h.froz
    have cm := HR.m.cell
    have fm := HR.m.froz
    cases hred : redC a b c with
    | true =>
      have hcall : Hid (∀ w1, Calls Try.prog 117 #[.agg #[.int .i64 a, .int .i64 b, .int .i64 c]] w1 fun en w' => en = .returned (.bool true) ∧ Below w1.heap.size w1 w') := Lib.hid fun w1 => by rw [← hred]; exact reIsR_any a b c w1 hJ
      have HRED := Lib.hid hred
      clear hred hJ HI HR
      go_wp2_with fail
      refine (hcall.out _).mono ?_
      rintro e1 w1 ⟨rfl, hB1⟩
      have h1 := hR.out.below hB1
      clear cf ff cg fg ch fh cm fm hB1 hR
      obtain ⟨h1f, h1g, h1h, h1m, h1b⟩ := h1
      have cf := h1f.cell
      have cg := h1g.cell
      have fg := h1g.froz
      have ch := h1h.cell
      have fh := h1h.froz
      have cm := h1m.cell
      have lf := h1f.lt
      have lg := h1g.lt
      have lh := h1h.lt
      have lm := h1m.lt
      obtain ⟨w2, e2, k2, z2, g2⟩ := h1g.set3 (.int .i64 a) (.int .i64 b) (.int .i64 c)
      have k2h := h1h.grown g2 (by simp <;> omega)
      have k2m := (h1m.grown g2 (by simp <;> omega)).cell
      obtain ⟨w3, e3, k3, z3, g3⟩ := k2h.set4 (.int .i64 p) (.int .i64 q) (.int .i64 r) (.int .i64 s)
      have k3g := k2.grown g3 (by simp <;> omega)
      have c2h := k2h.cell
      have c3 := k3.cell
      have c3g := k3g.cell
      have f2 := k2h.froz
      have bf : Below w.heap.size w w3 := below_grown (below_grown h1b g2 (by omega) (by omega)) g3 (by omega) (by have := h1b.size; omega)
      go_wp2_with fail
      go_region
      all_goals
        go_wp2_with fail
        refine bodyPost_ret (v := .tuple #[.agg #[.int .i64 a, .int .i64 b, .int .i64 c], .agg #[.int .i64 p, .int .i64 q, .int .i64 r, .int .i64 s]]) (by go_light; simp [results, Try.results105, go_sem, *]) rfl ⟨⟨a, b, c, p, q, r, s, rfl, hI.out, HRED.out⟩, ?_⟩
        with_reducible refine blD ?_
        exact bf
    | false =>
      have hcall : Hid (∀ w1, Calls Try.prog 117 #[.agg #[.int .i64 a, .int .i64 b, .int .i64 c]] w1 fun en w' => en = .returned (.bool false) ∧ Below w1.heap.size w1 w') := Lib.hid fun w1 => by rw [← hred]; exact reIsR_any a b c w1 hJ
      obtain ⟨hst, hms, hv1, hv2, hv3⟩ := HI.step hd hd3 hred
      obtain ⟨M, hM⟩ : ∃ M, mvM a b c = M := ⟨_, rfl⟩
      have hmove : Hid (∀ w1, Calls Try.prog 118 #[.agg #[.int .i64 a, .int .i64 b, .int .i64 c]] w1 fun en w' => en = .returned (.agg #[.int .i64 M.1, .int .i64 M.2.1, .int .i64 M.2.2.1, .int .i64 M.2.2.2]) ∧ Below w1.heap.size w1 w') := Lib.hid fun w1 => by rw [← hM]; exact reMove_any a b c w1 ⟨HI.a1, by have := HI.a2; omega⟩ ⟨by have := HI.bb.1; omega, by have := HI.bb.2; omega⟩
      rw [hM] at hv1 hv2 hv3
      obtain ⟨m1, m2, m3, m4⟩ := M
      obtain ⟨F, hF⟩ : ∃ F, stepF a b c = F := ⟨_, rfl⟩
      rw [hF] at hst hms hv1 hv2 hv3
      obtain ⟨F1, F2, F3⟩ := F
      simp only at hst hms hv1 hv2 hv3 hmove
      have HST := Lib.hid hst
      have HMS := Lib.hid hms
      clear hred hJ HI HR hM hF hst hms
      go_wp2_with fail
      refine (hcall.out _).mono ?_
      rintro ea wa ⟨rfl, hBa⟩
      have hRa := hR.out.below hBa
      have caf := hRa.f.cell
      clear hBa
      go_wp2_with fail
      refine (hmove.out _).mono ?_
      rintro eb wb ⟨rfl, hBb⟩
      have hRb := hRa.below hBb
      clear caf hBb hRa
      obtain ⟨wc, ec, kc, hRc⟩ : ∃ wc, wb.alloc (.cells #[.int .i64 m1, .int .i64 m2, .int .i64 m3, .int .i64 m4] 98) = wc ∧ Blk wb.heap.size 98 #[.int .i64 m1, .int .i64 m2, .int .i64 m3, .int .i64 m4] wc ∧ RB w wc a b c p q r s := ⟨_, rfl, Blk.new _ _ _, hRb.alloc _⟩
      obtain ⟨bm, hbm⟩ : ∃ bm, wb.heap.size = bm := ⟨_, rfl⟩
      have hlb := hRb.m.lt
      rw [hbm] at kc hlb
      have ccf := hRc.f.cell
      have ccm := hRc.m.cell
      have cck := kc.cell
      have lcf := hRc.f.lt
      have lcm := hRc.m.lt
      have lck := kc.lt
      clear hRb
      go_wp2_with fail
      try rw [ec]
      refine wp_region_past_tail 6 (by kernel_rfl) (by kernel_rfl) ?_
      simp only [List.take_succ_cons, List.take_zero, List.drop_succ_cons, List.drop_zero]
      repeat (first | go_big_quiet_skip | (go_big_quiet_want; go_big_quiet_op; first | go_big_quiet_on | (apply Exists.intro; refine ⟨fun _ => ?_, ?_⟩; (focus (first | (go_at_call 119; exact past_of (foAct_any _ _ _ _ _ _ _ _)) | (go_at_call 120; exact past_of (foMulR_any _ _ _ _ _ _ _ _ _)))); go_big_quiet_on)))
      refine wpQuiet_nil ?_
      intro w1 hw'
      have hB1 := past_below hw'
      clear hw'
      obtain ⟨hC1, hF1⟩ := bcell hB1
      have hS1 := hB1.size
      (try simp at hS1)
      (try have hS1_w0 : w.heap.size < w1.heap.size := by omega)
      (try have hS1_w1 : w.heap.size + 1 < w1.heap.size := by omega)
      (try have hS1_w2 : w.heap.size + 1 + 1 < w1.heap.size := by omega)
      (try have hS1_w3 : w.heap.size + 1 + 1 + 1 < w1.heap.size := by omega)
      (try have hS1_w4 : w.heap.size + 1 + 1 + 1 + 1 < w1.heap.size := by omega)
      have hR1 := hRc.below hB1
      clear hB1 hC1 hF1 kc ccf ccm cck
      obtain ⟨w5, e5, k5, z5, g5⟩ := hR1.f.set3 (.int .i64 F1) (.int .i64 F2) (.int .i64 F3)
      have k5m := hR1.m.grown g5 (by simp <;> omega)
      obtain ⟨w6, e6, k6, z6, g6⟩ := k5m.set4 (.int .i64 (wrap64 (wrap64 (p * m1) + wrap64 (q * m3)))) (.int .i64 (wrap64 (wrap64 (p * m2) + wrap64 (q * m4)))) (.int .i64 (wrap64 (wrap64 (r * m1) + wrap64 (s * m3)))) (.int .i64 (wrap64 (wrap64 (r * m2) + wrap64 (s * m4))))
      have hR6 : RB w w6 F1 F2 F3 (wrap64 (wrap64 (p * m1) + wrap64 (q * m3))) (wrap64 (wrap64 (p * m2) + wrap64 (q * m4))) (wrap64 (wrap64 (r * m1) + wrap64 (s * m3))) (wrap64 (wrap64 (r * m2) + wrap64 (s * m4))) :=
        ⟨k5.grown g6 (by simp <;> omega), (hR1.g.grown g5 (by simp <;> omega)).grown g6 (by simp <;> omega), (hR1.h.grown g5 (by simp <;> omega)).grown g6 (by simp <;> omega), k6, below_grown (below_grown hR1.b g5 (by omega) (by have := hR1.b.size; omega)) g6 (by omega) (by have := hR1.b.size; omega)⟩
      have c1f := hR1.f.cell
      have d1f := hR1.f.froz
      have c5m := k5m.cell
      have d5m := k5m.froz
      have c6f := hR6.f.cell
      go_wp2_with fail
      go_roundw
      case rel =>
        go_light
        exact ⟨F1, F2, F3, _, _, _, _, Lib.hid hR6, HST.out⟩
      case measure =>
        have := HMS.out
        simp [intOf, *]
theorem reClass_any (d : Int) (n : Int → Prop) (a b c : Int) (w : World) (hd : -2000 ≤ d) (hd3 : d ≤ -3) (hi : RI d n a b c) (hb2 : b ≤ 40000) :
    Calls Try.prog 85 #[.agg #[.int .i64 a, .int .i64 b, .int .i64 c]] w fun e w' => (∃ a' b' c' : Int, e = .returned (.agg #[.int .i64 a', .int .i64 b', .int .i64 c']) ∧ RI d n a' b' c' ∧ redC a' b' c' = true) ∧ Below w.heap.size w w' := by
  go_enter Try.func85, Try.ntmps85
  go_wp2_with fail
  refine (reReduce_any d n a b c _ hd hd3 hi hb2).mono ?_
  rintro e1 w1 ⟨⟨a', b', c', p, q, r, s, rfl, hI, hr⟩, hB1⟩
  have HI := Lib.hid hI
  have HR := Lib.hid hr
  clear hI hr hi
  obtain ⟨hC1, hF1⟩ := bcell hB1
  have hS1 := hB1.size
  simp at hS1
  have hS1a : w.heap.size + 1 < w1.heap.size := by omega
  have hS1b : w.heap.size + 1 < w1.heap.size + 1 := by omega
  have hS1c : ¬ w.heap.size + 1 = w1.heap.size := by omega
  have hS1d : ¬ w.heap.size + 1 = w1.heap.size + 1 := by omega
  have hS1e : ¬ w1.heap.size = w.heap.size + 1 := by omega
  go_wp2_with fail
  refine bodyPost_ret (v := .agg #[.int .i64 a', .int .i64 b', .int .i64 c']) (by go_light; simp [results, Try.results85, go_sem, *]) rfl ⟨⟨a', b', c', rfl, HI.out, HR.out⟩, ?_⟩
  repeat (first | with_reducible exact Below.refl _ _ | with_reducible assumption | ((with_reducible refine blA ?_ ?_); (focus (first | omega | (simp <;> omega)))) | (with_reducible refine blD ?_) | (with_reducible refine blN ?_) | ((with_reducible refine blS ?_ ?_); (focus (first | omega | (simp <;> omega)))) | ((with_reducible refine blT (by assumption) ?_ ?_); (focus (first | omega | (simp <;> omega)))))
theorem ri_of {d e a b : Int} (h : idB d e a b = true) : RI d (fun k => Rep a b (idC d a b) k) a b (idC d a b) ∧ b * b - d = 4 * a * idC d a b ∧ 1 ≤ idC d a b ∧ idC d a b ≤ 400010000 := by
  obtain ⟨h0, h1, h2, h3, h4, h5, h6, h7⟩ := idB_true h
  obtain ⟨m1, m2, m3, m4⟩ := idB_facts h0 h3 h4 h5 h6
  obtain ⟨d1, d2, d3⟩ := negB_true h0
  obtain ⟨c, hc⟩ := Int.dvd_of_emod_eq_zero h7
  have hcc : idC d a b = c := by
    unfold idC
    rw [hc]
    exact Int.mul_ediv_cancel_left _ (by omega)
  rw [hcc]
  have hc1 : 1 ≤ c := by
    refine Int.le_of_not_gt fun hle => ?_
    have := Int.mul_nonpos_of_nonneg_of_nonpos (show 0 ≤ 4 * a by omega) (show c ≤ 0 by omega)
    omega
  have hc2 : c ≤ 4 * a * c := by
    have := Int.mul_le_mul_of_nonneg_right (show 1 ≤ 4 * a by omega) (show 0 ≤ c by omega)
    omega
  exact ⟨⟨h3, by omega, ⟨by omega, by omega⟩, hc1, by omega, fun k => Iff.rfl⟩, hc, hc1, by omega⟩
/-- The class of an ideal: the first exactly if there is a generator. -/
theorem piClass_any (d e a b : Int) (w : World) (h : idB d e a b = true) :
    Calls Try.prog 57 #[.int .i64 d, .agg #[.int .i64 e, .int .i64 a, .int .i64 b]] w fun en w' => (∃ a' b' c' : Int, en = .returned (.agg #[.int .i64 a', .int .i64 b', .int .i64 c']) ∧ RI d (fun k => Rep a b (idC d a b) k) a' b' c' ∧ redC a' b' c' = true) ∧ Below w.heap.size w w' := by
  obtain ⟨h0, h1, h2, h3, h4, h5, h6, h7⟩ := idB_true h
  obtain ⟨d1, d2, d3⟩ := negB_true h0
  obtain ⟨hri, -⟩ := ri_of h
  have HRI := Lib.hid hri
  clear h1 h2 h3 h4 h5 h7 hri
  go_enter Try.func57, Try.ntmps57
  go_wp2_with fail
  refine (idForm_any _ _ _ _ _ h).mono ?_
  rintro e1 w1 ⟨rfl, hB1⟩
  obtain ⟨hC1, hF1⟩ := bcell hB1
  have hS1 := hB1.size
  (try simp at hS1)
  (try have hS1_w0 : w.heap.size < w1.heap.size := by omega)
  (try have hS1_w1 : w.heap.size + 1 < w1.heap.size := by omega)
  (try have hS1_w2 : w.heap.size + 1 + 1 < w1.heap.size := by omega)
  (try have hS1_w3 : w.heap.size + 1 + 1 + 1 < w1.heap.size := by omega)
  (try have hS1_w4 : w.heap.size + 1 + 1 + 1 + 1 < w1.heap.size := by omega)
  (try have hL1_w0 : w.heap.size ≤ w1.heap.size := by omega)
  (try have hL1_w1 : w.heap.size + 1 ≤ w1.heap.size := by omega)
  (try have hL1_w2 : w.heap.size + 1 + 1 ≤ w1.heap.size := by omega)
  (try have hL1_w3 : w.heap.size + 1 + 1 + 1 ≤ w1.heap.size := by omega)
  (try have hL1_w : w.heap.size ≤ w1.heap.size + 1 := by omega)
  (try have hM1_1 : w.heap.size < w1.heap.size + 1 := by omega)
  (try have hM1_2 : w.heap.size < w1.heap.size + 1 + 1 := by omega)
  (try have hM1_3 : w.heap.size < w1.heap.size + 1 + 1 + 1 := by omega)
  go_wp2_with fail
  refine (reClass_any d _ a b _ _ d1 d2 HRI.out (by have := HRI.out.a2; omega)).mono ?_
  rintro e2 w2 ⟨⟨a', b', c', rfl, hI, hr⟩, hB2⟩
  have HI := Lib.hid hI
  have HR := Lib.hid hr
  clear hI hr h h6 h0
  obtain ⟨hC2, hF2⟩ := bcell hB2
  have hS2 := hB2.size
  (try simp at hS2)
  have hS2w : w.heap.size + 1 < w2.heap.size := by omega
  go_wp2_with fail
  refine bodyPost_ret (v := .agg #[.int .i64 a', .int .i64 b', .int .i64 c']) (by go_light; simp [results, Try.results57, go_sem, *]) rfl ⟨⟨a', b', c', rfl, HI.out, HR.out⟩, ?_⟩
  repeat (first | with_reducible exact Below.refl _ _ | with_reducible assumption | ((with_reducible refine blA ?_ ?_); (focus (first | omega | (simp <;> omega)))) | (with_reducible refine blD ?_) | (with_reducible refine blN ?_) | ((with_reducible refine blS ?_ ?_); (focus (first | omega | (simp <;> omega)))) | ((with_reducible refine blT (by assumption) ?_ ?_); (focus (first | omega | (simp <;> omega)))))
end Go.Proofs.Ytladcjoiaoaedaa
