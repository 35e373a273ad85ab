/-
  The reference's reduction of an indefinite form, walked.
-/
import Derived.Test.YtemnkfigjpphgaaIrc
namespace Go.Proofs.Ytemnkfigjpphgaa
open Go.RowKit
attribute [local simp, local go_sem] past_cell past_frozen past_tape
set_option maxRecDepth 100000 in
set_option maxHeartbeats 8000000 in
theorem cyReduce_any (r d a b c : Int) (w : World) (hg : Gd r d (a, b, c)) (hp : posB d = true) :
    Calls Try.prog 75 #[.agg #[.int .i64 a, .int .i64 b, .int .i64 c]] w fun e w' => (∃ (g : Fm) (N : Mt) (ok : Bool), e = .returned (.tuple #[.agg #[.int .i64 g.1, .int .i64 g.2.1, .int .i64 g.2.2], .agg #[.int .i64 N.1, .int .i64 N.2.1, .int .i64 N.2.2.1, .int .i64 N.2.2.2], .bool ok]) ∧ Rd r (a, b, c) mI g N ok) ∧ Below w.heap.size w w' := by
  go_enter Try.func75, Try.ntmps75
  have hRi : RM w ((((w.alloc (.cells #[.int .i64 a, .int .i64 b, .int .i64 c] 36)).alloc (.cells #[.int .i64 0, .int .i64 0, .int .i64 0] 36)).alloc (.cells #[.int .i64 0, .int .i64 0, .int .i64 0, .int .i64 0] 40)).alloc (.cells #[.int .i64 1, .int .i64 0, .int .i64 0, .int .i64 1] 40)) (w.heap.size + 1 + 1 + 1) (a, b, c) mI := by
    refine ⟨?_, ?_, ?_, ?_, ?_, by omega⟩
    · exact (((Blk.new w 36 #[.int .i64 a, .int .i64 b, .int .i64 c]).alloc _).alloc _).alloc _
    · have := (((Blk.new (w.alloc (.cells #[.int .i64 a, .int .i64 b, .int .i64 c] 36)) 36 #[.int .i64 0, .int .i64 0, .int .i64 0]).alloc (.cells #[.int .i64 0, .int .i64 0, .int .i64 0, .int .i64 0] 40)).alloc (.cells #[.int .i64 1, .int .i64 0, .int .i64 0, .int .i64 1] 40))
      simpa using this
    · have := ((Blk.new ((w.alloc (.cells #[.int .i64 a, .int .i64 b, .int .i64 c] 36)).alloc (.cells #[.int .i64 0, .int .i64 0, .int .i64 0] 36)) 40 #[.int .i64 0, .int .i64 0, .int .i64 0, .int .i64 0]).alloc (.cells #[.int .i64 1, .int .i64 0, .int .i64 0, .int .i64 1] 40))
      simpa using this
    · have := Blk.new (((w.alloc (.cells #[.int .i64 a, .int .i64 b, .int .i64 c] 36)).alloc (.cells #[.int .i64 0, .int .i64 0, .int .i64 0] 36)).alloc (.cells #[.int .i64 0, .int .i64 0, .int .i64 0, .int .i64 0] 40)) 40 #[.int .i64 1, .int .i64 0, .int .i64 0, .int .i64 1]
      simpa [mI] using this
    · repeat (first | with_reducible exact Below.refl _ _ | with_reducible assumption | ((with_reducible refine blA ?_ ?_); (focus (first | omega | (simp <;> omega)))) | (with_reducible refine blD ?_) | (with_reducible refine blN ?_) | ((with_reducible refine blS ?_ ?_); (focus (first | omega | (simp <;> omega)))) | ((with_reducible refine blT (by assumption) ?_ ?_); (focus (first | omega | (simp <;> omega)))))
  have HRI := Lib.hid hRi
  have HP := Lib.hid hp
  have HG := Lib.hid hg
  clear hRi hp hg
  go_wp2_with fail
  go_loopw [] (fun wr => ∃ (f : Fm) (M : Mt), Hid (RM w wr (w.heap.size + 1 + 1 + 1) f M) ∧ Hid (Gd r d f) ∧ Hid (mle 1000000 M) ∧ Hid (∀ g N ok, Rd r f M g N ok → Rd r (a, b, c) mI g N ok)) (fun wr => cMs r (intOf ((wr.cell? ⟨w.heap.size, 0, none⟩).getD undef), intOf ((wr.cell? ⟨w.heap.size, 1, none⟩).getD undef), intOf ((wr.cell? ⟨w.heap.size, 2, none⟩).getD undef)))
  case atStart =>
    exact ⟨(a, b, c), mI, HRI, HG, Lib.hid ⟨by decide, by decide, by decide, by decide⟩, Lib.hid fun _ _ _ h => h⟩
  case round =>
    obtain ⟨⟨a1, b1, c1⟩, ⟨p, q, s, t⟩, hR, hG, hM, hD⟩ := hrel
    clear HRI HG
    have HR := hR.out
    have cf := HR.f.cell
    have ff := HR.f.froz
    have cg := HR.g.cell
    have fg := HR.g.froz
    have ch := HR.h.cell
    have fh := HR.h.froz
    have cm := HR.m.cell
    have fm := HR.m.froz
    have cm : ∀ o, wr.cell? ⟨w.heap.size + 1 + 1 + 1, o, none⟩ = (#[.int .i64 p, .int .i64 q, .int .i64 s, .int .i64 t] : Array Value)[o]? := HR.m.cell
    simp only at cf
    cases hred : cyB r (a1, b1, c1) with
    | true =>
      have hcall : Hid (∀ w1, Calls Try.prog 94 #[.agg #[.int .i64 a1, .int .i64 b1, .int .i64 c1]] w1 fun en w' => en = .returned (.bool true) ∧ Below w1.heap.size w1 w') := Lib.hid fun w1 => by rw [← hred]; exact cyIs_any r d a1 b1 c1 w1 hG.out
      have HF := Lib.hid (hD.out _ _ _ (Rd.stop hred))
      clear hred HR hD
      go_wp2_with fail
      refine (hcall.out _).mono ?_
      rintro e1 w1 ⟨rfl, hB1⟩
      have h1 := hR.out.below hB1
      clear cf ff cg fg ch fh cm fm hB1 hR
      obtain ⟨h1f, h1g, h1h, h1m, h1b, h1n⟩ := h1
      have cf := h1f.cell
      have cg := h1g.cell
      have fg := h1g.froz
      have ch := h1h.cell
      have fh := h1h.froz
      have cm : ∀ o, w1.cell? ⟨w.heap.size + 1 + 1 + 1, o, none⟩ = (#[.int .i64 p, .int .i64 q, .int .i64 s, .int .i64 t] : Array Value)[o]? := h1m.cell
      have lf := h1f.lt
      have lg := h1g.lt
      have lh := h1h.lt
      have lm := h1m.lt
      simp only at cf
      obtain ⟨w2, e2, k2, z2, g2⟩ := h1g.set3 (.int .i64 a1) (.int .i64 b1) (.int .i64 c1)
      have k2h := h1h.grown g2 (by simp <;> omega)
      have k2m : ∀ o, w2.cell? ⟨w.heap.size + 1 + 1 + 1, o, none⟩ = (#[.int .i64 p, .int .i64 q, .int .i64 s, .int .i64 t] : Array Value)[o]? := (h1m.grown g2 (by simp <;> omega)).cell
      obtain ⟨w3, e3, k3, z3, g3⟩ := k2h.set4 (.int .i64 p) (.int .i64 q) (.int .i64 s) (.int .i64 t)
      have k3g := k2.grown g3 (by simp <;> omega)
      have c2h := k2h.cell
      have c3 := k3.cell
      have c3g := k3g.cell
      have f2 := k2h.froz
      have bf : Below w.heap.size w w3 := below_grown (below_grown h1b g2 (by omega) (by omega)) g3 (by omega) (by have := h1b.size; omega)
      go_wp2_with fail
      go_region
      all_goals
        go_wp2_with fail
        refine bodyPost_ret (v := .tuple #[.agg #[.int .i64 a1, .int .i64 b1, .int .i64 c1], .agg #[.int .i64 p, .int .i64 q, .int .i64 s, .int .i64 t], .bool true]) (by go_light; simp [results, Try.results75, go_sem, *]) rfl ⟨⟨(a1, b1, c1), (p, q, s, t), true, rfl, HF.out⟩, ?_⟩
        with_reducible refine blD ?_
        exact bf
    | false =>
      have HCF := Lib.hid cf
      have hcall : Hid (∀ w1, Calls Try.prog 94 #[.agg #[.int .i64 a1, .int .i64 b1, .int .i64 c1]] w1 fun en w' => en = .returned (.bool false) ∧ Below w1.heap.size w1 w') := Lib.hid fun w1 => by rw [← hred]; exact cyIs_any r d a1 b1 c1 w1 hG.out
      have hnext := Lib.hid fun w1 => specNextForm_any r d a1 b1 c1 w1 hG.out HP.out
      have hml : mle 1000000 (nmg r (a1, b1, c1)) := mB_mle.1 (nmg_mB hG.out)
      have htimes := Lib.hid fun w1 => foMul_mm (p, q, s, t) (nmg r (a1, b1, c1)) w1 hM.out hml
      have HN := Lib.hid (hG.out.next.1)
      have HMS := Lib.hid (cMs_less hG.out.root hred)
      have HBAD := Lib.hid (fun hb => hD.out _ _ _ (Rd.bad hred hb))
      have HNX := Lib.hid (fun hm g N ok hR => hD.out g N ok (Rd.next hred hm hR))
      clear hD hG hM HR hml
      obtain ⟨⟨G1, G2, G3⟩, hGe⟩ : ∃ G, nbg r (a1, b1, c1) = G := ⟨_, rfl⟩
      obtain ⟨⟨N1, N2, N3, N4⟩, hNe⟩ : ∃ N, nmg r (a1, b1, c1) = N := ⟨_, rfl⟩
      obtain ⟨⟨X1, X2, X3, X4⟩, hXe⟩ : ∃ X, mm (p, q, s, t) (nmg r (a1, b1, c1)) = X := ⟨_, rfl⟩
      rw [hGe] at hnext HN HMS HNX
      rw [hXe] at HBAD HNX htimes
      rw [hNe] at hnext htimes
      simp only at hnext htimes
      clear hGe hNe hXe hred
      go_wp2_with fail
      refine (hcall.out _).mono ?_
      rintro e1 w1 ⟨rfl, hB1⟩
      have h1 := hR.out.below hB1
      clear cf ff cg fg ch fh cm fm hB1 hR
      have cf := h1.f.cell
      simp only at cf
      go_wp2_with fail
      refine (hnext.out _).mono ?_
      rintro e2 w2 ⟨rfl, hB2⟩
      have h2 := h1.below hB2
      clear hB2 h1 cf
      have lm := h2.m.lt
      have lf := h2.f.lt
      have h2g : Blk w2.heap.size 36 #[.int .i64 G1, .int .i64 G2, .int .i64 G3] ((w2.alloc (.cells #[.int .i64 G1, .int .i64 G2, .int .i64 G3] 36)).alloc (.cells #[.int .i64 N1, .int .i64 N2, .int .i64 N3, .int .i64 N4] 40)) := (Blk.new w2 _ _).alloc _
      have hn0 : w.heap.size + 1 + 1 < w2.heap.size := by omega
      obtain ⟨y2, ey2, hy2, hyg, hyn, hyz⟩ : ∃ y2, (w2.alloc (.cells #[.int .i64 G1, .int .i64 G2, .int .i64 G3] 36)).alloc (.cells #[.int .i64 N1, .int .i64 N2, .int .i64 N3, .int .i64 N4] 40) = y2 ∧ RM w y2 (w.heap.size + 1 + 1 + 1) (a1, b1, c1) (p, q, s, t) ∧ Blk w2.heap.size 36 #[.int .i64 G1, .int .i64 G2, .int .i64 G3] y2 ∧ Blk (w2.heap.size + 1) 40 #[.int .i64 N1, .int .i64 N2, .int .i64 N3, .int .i64 N4] y2 ∧ y2.heap.size = w2.heap.size + 1 + 1 := by
        refine ⟨_, rfl, (h2.alloc _).alloc _, h2g, ?_, by simp⟩
        have := Blk.new (w2.alloc (.cells #[.int .i64 G1, .int .i64 G2, .int .i64 G3] 36)) 40 #[.int .i64 N1, .int .i64 N2, .int .i64 N3, .int .i64 N4]
        simpa using this
      clear h2g h2
      obtain ⟨bg, hbg⟩ : ∃ bg, w2.heap.size = bg := ⟨_, rfl⟩
      rw [hbg] at hyg hyn lf lm hn0
      clear hyz
      have cyf : ∀ o, y2.cell? ⟨w.heap.size + 1 + 1 + 1, o, none⟩ = (#[.int .i64 p, .int .i64 q, .int .i64 s, .int .i64 t] : Array Value)[o]? := hy2.m.cell
      have cyg := hyg.cell
      have cyn := hyn.cell
      have lyg := hyg.lt
      have lyn := hyn.lt
      have lym := hy2.m.lt
      go_wp2_with fail
      try rw [ey2]
      refine wp_region_past_tail 4 (by kernel_rfl) (by kernel_rfl) ?_
      simp only [List.take_succ_cons, List.take_zero, List.drop_succ_cons, List.drop_zero]
      repeat (first | go_big_quiet_skip | (go_big_quiet_want; go_big_quiet_op; first | go_big_quiet_on | (apply Exists.intro; refine ⟨fun _ => ?_, ?_⟩; (focus ((go_at_call 80; exact past_of (htimes.out _)))); go_big_quiet_on)))
      refine wpQuiet_nil ?_
      intro w1 hw'
      have hB1 := past_below hw'
      clear hw'
      obtain ⟨hC1, hF1⟩ := bcell hB1
      have hS1 := hB1.size
      (try simp at hS1)
      (try have hS1_w0 : w.heap.size < w1.heap.size := by omega)
      (try have hS1_w1 : w.heap.size + 1 < w1.heap.size := by omega)
      (try have hS1_w2 : w.heap.size + 1 + 1 < w1.heap.size := by omega)
      (try have hS1_w3 : w.heap.size + 1 + 1 + 1 < w1.heap.size := by omega)
      (try have hS1_w4 : w.heap.size + 1 + 1 + 1 + 1 < w1.heap.size := by omega)
      have h3 := hy2.below hB1
      clear hB1 hC1 hF1 cyf cyg cyn ey2 hyg hyn hy2
      have cm : ∀ o, w1.cell? ⟨w.heap.size + 1 + 1 + 1, o, none⟩ = (#[.int .i64 p, .int .i64 q, .int .i64 s, .int .i64 t] : Array Value)[o]? := h3.m.cell
      have fm := h3.m.froz
      have cf3 := h3.f.cell
      have ff3 := h3.f.froz
      have lf3 := h3.f.lt
      have lm3 := h3.m.lt
      simp only at cf3
      obtain ⟨w5, e5, k5, z5, g5⟩ := h3.f.set3 (.int .i64 G1) (.int .i64 G2) (.int .i64 G3)
      have km5 := h3.m.grown g5 (by simp <;> omega)
      obtain ⟨w6, e6, k6, z6, g6⟩ := km5.set4 (.int .i64 X1) (.int .i64 X2) (.int .i64 X3) (.int .i64 X4)
      have hR6 : RM w w6 (w.heap.size + 1 + 1 + 1) (G1, G2, G3) (X1, X2, X3, X4) :=
        ⟨k5.grown g6 (by simp <;> omega), (h3.g.grown g5 (by simp <;> omega)).grown g6 (by simp <;> omega), (h3.h.grown g5 (by simp <;> omega)).grown g6 (by simp <;> omega), k6, below_grown (below_grown h3.b g5 (by omega) (by have := h3.b.size; omega)) g6 (by omega) (by have := h3.b.size; omega), h3.n⟩
      have cm5 : ∀ o, w5.cell? ⟨w.heap.size + 1 + 1 + 1, o, none⟩ = (#[.int .i64 p, .int .i64 q, .int .i64 s, .int .i64 t] : Array Value)[o]? := km5.cell
      have fm5 := km5.froz
      have c6m : ∀ o, w6.cell? ⟨w.heap.size + 1 + 1 + 1, o, none⟩ = (#[.int .i64 X1, .int .i64 X2, .int .i64 X3, .int .i64 X4] : Array Value)[o]? := hR6.m.cell
      have HR6 := Lib.hid hR6
      clear h3 k5 km5 k6 hR6
      cases hmb : mB X1 X2 X3 X4 with
      | false =>
        have hch : Hid (∀ w1, Calls Try.prog 81 #[.agg #[.int .i64 X1, .int .i64 X2, .int .i64 X3, .int .i64 X4]] w1 fun en w' => en = .returned (.bool false) ∧ Below w1.heap.size w1 w') := Lib.hid fun w1 => by have h := sMatrix_any X1 X2 X3 X4 w1; rwa [hmb] at h
        have HF := Lib.hid (HBAD.out (fun h => by have := (mB_mle (M := (X1, X2, X3, X4))).2 h; rw [hmb] at this; cases this))
        clear hmb HBAD HNX
        go_wp2_with fail
        refine (hch.out _).mono ?_
        rintro e4 w4 ⟨rfl, hB4⟩
        have h4 := HR6.out.below hB4
        clear hB4 HR6 c6m cm5 fm5 cm fm cf3 ff3 e5 e6 g5 g6
        have cg := h4.g.cell
        have fg := h4.g.froz
        have ch := h4.h.cell
        have fh := h4.h.froz
        have lg := h4.g.lt
        have lh := h4.h.lt
        have hb4 := h4.b
        go_wp2_with fail
        refine bodyPost_ret (v := .tuple #[.agg #[.int .i64 0, .int .i64 0, .int .i64 0], .agg #[.int .i64 0, .int .i64 0, .int .i64 0, .int .i64 0], .bool false]) (by go_light; simp [results, Try.results75, go_sem, *]) rfl ⟨⟨(0, 0, 0), (0, 0, 0, 0), false, rfl, HF.out⟩, ?_⟩
        repeat (first | with_reducible exact Below.refl _ _ | with_reducible assumption | ((with_reducible refine blA ?_ ?_); (focus (first | omega | (simp <;> omega)))) | (with_reducible refine blD ?_) | (with_reducible refine blN ?_) | ((with_reducible refine blS ?_ ?_); (focus (first | omega | (simp <;> omega)))) | ((with_reducible refine blT (by assumption) ?_ ?_); (focus (first | omega | (simp <;> omega)))))
      | true =>
        have hch : Hid (∀ w1, Calls Try.prog 81 #[.agg #[.int .i64 X1, .int .i64 X2, .int .i64 X3, .int .i64 X4]] w1 fun en w' => en = .returned (.bool true) ∧ Below w1.heap.size w1 w') := Lib.hid fun w1 => by have h := sMatrix_any X1 X2 X3 X4 w1; rwa [hmb] at h
        have HF := Lib.hid (HNX.out ((mB_mle (M := (X1, X2, X3, X4))).1 hmb))
        have HML := Lib.hid ((mB_mle (M := (X1, X2, X3, X4))).1 hmb)
        clear hmb HBAD HNX
        go_wp2_with fail
        refine (hch.out _).mono ?_
        rintro e4 w4 ⟨rfl, hB4⟩
        have h4 := HR6.out.below hB4
        clear hB4 HR6 c6m cm5 fm5 cm fm cf3 ff3 e5 e6 g5 g6
        have c6f := h4.f.cell
        have HR6 := Lib.hid h4
        simp only at c6f
        go_wp2_with fail
        go_roundw
        case rel =>
          go_light
          exact ⟨(G1, G2, G3), (X1, X2, X3, X4), HR6, HN.out, HML.out, HF.out⟩
        case measure =>
          have h0 := HCF.out
          have h1 := HMS.out
          simp [intOf, h0, c6f]
          exact h1
end Go.Proofs.Ytemnkfigjpphgaa
