/-
  The program's reduction of an indefinite form, walked.
-/
import Derived.Test.YtemnkfigjpphgaaIrc
namespace Go.Proofs.Ytemnkfigjpphgaa
open Go.RowKit
attribute [local simp, local go_sem] past_cell past_frozen past_tape
set_option maxRecDepth 100000 in
set_option maxHeartbeats 8000000 in
theorem toCycle_any (r d a b c : Int) (w : World) (hg : Gd r d (a, b, c)) (hp : posB d = true) :
    Calls Try.prog 88 #[.agg #[.int .i64 a, .int .i64 b, .int .i64 c]] w fun e w' => (∃ (g : Fm) (N : Mt) (ok : Bool), e = .returned (.tuple #[.agg #[.int .i64 g.1, .int .i64 g.2.1, .int .i64 g.2.2], .agg #[.int .i64 N.1, .int .i64 N.2.1, .int .i64 N.2.2.1, .int .i64 N.2.2.2], .bool ok]) ∧ Rd r (a, b, c) mI g N ok) ∧ Below w.heap.size w w' := by
  go_enter Try.func88, Try.ntmps88
  go_wp2_with fail
  refine (one_any' _).mono ?_
  rintro e0 w0 ⟨rfl, hB0⟩
  have hz0 := hB0.size
  simp at hz0
  obtain ⟨wi, ei, hRi⟩ : ∃ wi, w0.alloc (.cells #[.int .i64 1, .int .i64 0, .int .i64 0, .int .i64 1] 40) = wi ∧ RM w wi w0.heap.size (a, b, c) mI := by
    refine ⟨_, rfl, ⟨?_, ?_, ?_, Blk.new _ _ _, ?_, by omega⟩⟩
    · exact ((((Blk.new w 36 #[.int .i64 a, .int .i64 b, .int .i64 c]).alloc _).alloc _).below hB0).alloc _
    · have := ((((Blk.new (w.alloc (.cells #[.int .i64 a, .int .i64 b, .int .i64 c] 36)) 36 #[.int .i64 0, .int .i64 0, .int .i64 0]).alloc _).below hB0).alloc (.cells #[.int .i64 1, .int .i64 0, .int .i64 0, .int .i64 1] 40))
      simpa using this
    · have := (((Blk.new ((w.alloc (.cells #[.int .i64 a, .int .i64 b, .int .i64 c] 36)).alloc (.cells #[.int .i64 0, .int .i64 0, .int .i64 0] 36)) 40 #[.int .i64 0, .int .i64 0, .int .i64 0, .int .i64 0]).below hB0).alloc (.cells #[.int .i64 1, .int .i64 0, .int .i64 0, .int .i64 1] 40))
      simpa using this
    · repeat (first | with_reducible exact Below.refl _ _ | with_reducible assumption | ((with_reducible refine blA ?_ ?_); (focus (first | omega | (simp <;> omega)))) | (with_reducible refine blD ?_) | (with_reducible refine blN ?_) | ((with_reducible refine blS ?_ ?_); (focus (first | omega | (simp <;> omega)))) | ((with_reducible refine blT (by assumption) ?_ ?_); (focus (first | omega | (simp <;> omega)))))
  obtain ⟨bm, hbm⟩ : ∃ bm, w0.heap.size = bm := ⟨_, rfl⟩
  go_wp2_with fail
  try rw [ei]
  try rw [hbm]
  rw [hbm] at hRi
  have HRI := Lib.hid hRi
  have HP := Lib.hid hp
  have HG := Lib.hid hg
  clear hRi hB0 hz0 ei hbm hp hg
  go_loopw [] (fun wr => ∃ (f : Fm) (M : Mt), Hid (RM w wr bm f M) ∧ Hid (Gd r d f) ∧ Hid (mle 1000000 M) ∧ Hid (∀ g N ok, Rd r f M g N ok → Rd r (a, b, c) mI g N ok)) (fun wr => cMs r (intOf ((wr.cell? ⟨w.heap.size, 0, none⟩).getD undef), intOf ((wr.cell? ⟨w.heap.size, 1, none⟩).getD undef), intOf ((wr.cell? ⟨w.heap.size, 2, none⟩).getD undef)))
  case atStart =>
    exact ⟨(a, b, c), mI, HRI, HG, Lib.hid ⟨by decide, by decide, by decide, by decide⟩, Lib.hid fun _ _ _ h => h⟩
  case round =>
    obtain ⟨⟨a1, b1, c1⟩, ⟨p, q, s, t⟩, hR, hG, hM, hD⟩ := hrel
    clear HRI HG
    have HR := hR.out
    have cf := HR.f.cell
    have ff := HR.f.froz
    have cg := HR.g.cell
    have fg := HR.g.froz
    have ch := HR.h.cell
    have fh := HR.h.froz
    have cm := HR.m.cell
    have fm := HR.m.froz
    simp only at cf cm
    cases hred : cyB r (a1, b1, c1) with
    | true =>
      have hcall : Hid (∀ w1, Calls Try.prog 89 #[.agg #[.int .i64 a1, .int .i64 b1, .int .i64 c1]] w1 fun en w' => en = .returned (.bool true) ∧ Below w1.heap.size w1 w') := Lib.hid fun w1 => by rw [← hred]; exact isCyclic_any r d a1 b1 c1 w1 hG.out
      have HF := Lib.hid (hD.out _ _ _ (Rd.stop hred))
      clear hred HR hD
      go_wp2_with fail
      refine (hcall.out _).mono ?_
      rintro e1 w1 ⟨rfl, hB1⟩
      have h1 := hR.out.below hB1
      clear cf ff cg fg ch fh cm fm hB1 hR
      obtain ⟨h1f, h1g, h1h, h1m, h1b, h1n⟩ := h1
      have cf := h1f.cell
      have cg := h1g.cell
      have fg := h1g.froz
      have ch := h1h.cell
      have fh := h1h.froz
      have cm := h1m.cell
      have lf := h1f.lt
      have lg := h1g.lt
      have lh := h1h.lt
      have lm := h1m.lt
      simp only at cf cm
      obtain ⟨w2, e2, k2, z2, g2⟩ := h1g.set3 (.int .i64 a1) (.int .i64 b1) (.int .i64 c1)
      have k2h := h1h.grown g2 (by simp <;> omega)
      have k2m := (h1m.grown g2 (by simp <;> omega)).cell
      obtain ⟨w3, e3, k3, z3, g3⟩ := k2h.set4 (.int .i64 p) (.int .i64 q) (.int .i64 s) (.int .i64 t)
      have k3g := k2.grown g3 (by simp <;> omega)
      have c2h := k2h.cell
      have c3 := k3.cell
      have c3g := k3g.cell
      have f2 := k2h.froz
      simp only at k2m
      have bf : Below w.heap.size w w3 := below_grown (below_grown h1b g2 (by omega) (by omega)) g3 (by omega) (by have := h1b.size; omega)
      go_wp2_with fail
      go_region
      all_goals
        go_wp2_with fail
        refine bodyPost_ret (v := .tuple #[.agg #[.int .i64 a1, .int .i64 b1, .int .i64 c1], .agg #[.int .i64 p, .int .i64 q, .int .i64 s, .int .i64 t], .bool true]) (by go_light; simp [results, Try.results88, go_sem, *]) rfl ⟨⟨(a1, b1, c1), (p, q, s, t), true, rfl, HF.out⟩, ?_⟩
        with_reducible refine blD ?_
        exact bf
    | false =>
      have HCF := Lib.hid cf
      have hcall : Hid (∀ w1, Calls Try.prog 89 #[.agg #[.int .i64 a1, .int .i64 b1, .int .i64 c1]] w1 fun en w' => en = .returned (.bool false) ∧ Below w1.heap.size w1 w') := Lib.hid fun w1 => by rw [← hred]; exact isCyclic_any r d a1 b1 c1 w1 hG.out
      have hnext := Lib.hid fun w1 => implNextForm_any r d a1 b1 c1 w1 hG.out HP.out
      have hml : mle 1000000 (nmg r (a1, b1, c1)) := mB_mle.1 (nmg_mB hG.out)
      have htimes := Lib.hid fun w1 => times_mm (p, q, s, t) (nmg r (a1, b1, c1)) w1 hM.out hml
      have HN := Lib.hid (hG.out.next.1)
      have HMS := Lib.hid (cMs_less hG.out.root hred)
      have HBAD := Lib.hid (fun hb => hD.out _ _ _ (Rd.bad hred hb))
      have HNX := Lib.hid (fun hm g N ok hR => hD.out g N ok (Rd.next hred hm hR))
      clear hD hG hM HR hml
      obtain ⟨⟨G1, G2, G3⟩, hGe⟩ : ∃ G, nbg r (a1, b1, c1) = G := ⟨_, rfl⟩
      obtain ⟨⟨N1, N2, N3, N4⟩, hNe⟩ : ∃ N, nmg r (a1, b1, c1) = N := ⟨_, rfl⟩
      obtain ⟨⟨X1, X2, X3, X4⟩, hXe⟩ : ∃ X, mm (p, q, s, t) (nmg r (a1, b1, c1)) = X := ⟨_, rfl⟩
      rw [hGe] at hnext HN HMS HNX
      rw [hXe] at HBAD HNX htimes
      rw [hNe] at hnext htimes
      simp only at hnext htimes
      clear hGe hNe hXe hred
      go_wp2_with fail
      refine (hcall.out _).mono ?_
      rintro e1 w1 ⟨rfl, hB1⟩
      have h1 := hR.out.below hB1
      clear cf ff cg fg ch fh cm fm hB1 hR
      have cf := h1.f.cell
      simp only at cf
      go_wp2_with fail
      refine (hnext.out _).mono ?_
      rintro e2 w2 ⟨rfl, hB2⟩
      have h2 := h1.below hB2
      clear hB2 h1 cf
      have cm := h2.m.cell
      have lm := h2.m.lt
      have lf := h2.f.lt
      simp only at cm
      go_wp2_with fail
      refine (htimes.out _).mono ?_
      rintro e3 w3 ⟨rfl, hB3⟩
      have h3 := ((h2.alloc _).alloc _).below hB3
      have k3 := ((Blk.new w2 36 #[.int .i64 G1, .int .i64 G2, .int .i64 G3]).alloc _).below hB3
      have z3 := hB3.size
      simp at z3
      clear hB3 h2 cm
      cases hmb : mB X1 X2 X3 X4 with
      | false =>
        have hch := Lib.hid fun w1 => checked_no X1 X2 X3 X4 w1 hmb
        have HF := Lib.hid (HBAD.out (fun h => by have := (mB_mle (M := (X1, X2, X3, X4))).2 h; rw [hmb] at this; cases this))
        clear hmb HBAD HNX
        go_wp2_with fail
        refine (hch.out _).mono ?_
        rintro e4 w4 ⟨rfl, hB4⟩
        have h4 := h3.below hB4
        clear hB4 h3 k3
        have cm := h4.m.cell
        have fm := h4.m.froz
        have cg := h4.g.cell
        have fg := h4.g.froz
        have ch := h4.h.cell
        have fh := h4.h.froz
        have lm' := h4.m.lt
        have lg := h4.g.lt
        have lh := h4.h.lt
        have nb := h4.n
        have hne1 : ¬ bm = w.heap.size + 1 := by omega
        have hne2 : ¬ bm = w.heap.size + 1 + 1 := by omega
        have hne3 : ¬ w.heap.size + 1 = bm := by omega
        have hne4 : ¬ w.heap.size + 1 + 1 = bm := by omega
        have hb4 := h4.b
        simp only at cm
        go_wp2_with fail
        refine bodyPost_ret (v := .tuple #[.agg #[.int .i64 0, .int .i64 0, .int .i64 0], .agg #[.int .i64 0, .int .i64 0, .int .i64 0, .int .i64 0], .bool false]) (by go_light; simp [results, Try.results88, go_sem, *]) rfl ⟨⟨(0, 0, 0), (0, 0, 0, 0), false, rfl, HF.out⟩, ?_⟩
        repeat (first | with_reducible exact Below.refl _ _ | with_reducible assumption | ((with_reducible refine blA ?_ ?_); (focus (first | omega | (simp <;> omega)))) | (with_reducible refine blD ?_) | (with_reducible refine blN ?_) | ((with_reducible refine blS ?_ ?_); (focus (first | omega | (simp <;> omega)))) | ((with_reducible refine blT (by assumption) ?_ ?_); (focus (first | omega | (simp <;> omega)))))
      | true =>
        have hch := Lib.hid fun w1 => checked_yes X1 X2 X3 X4 w1 hmb
        have HF := Lib.hid (HNX.out ((mB_mle (M := (X1, X2, X3, X4))).1 hmb))
        have HML := Lib.hid ((mB_mle (M := (X1, X2, X3, X4))).1 hmb)
        clear hmb HBAD HNX
        go_wp2_with fail
        refine (hch.out _).mono ?_
        rintro e4 w4 ⟨rfl, hB4⟩
        have h4 := h3.below hB4
        have k4 := k3.below hB4
        have z4 := hB4.size
        clear hB4 h3 k3
        have cm := h4.m.cell
        have fm := h4.m.froz
        have lm' := h4.m.lt
        have nb := h4.n
        have cf4 := h4.f.cell
        have ff4 := h4.f.froz
        simp only at cm cf4
        obtain ⟨w5, e5, k5, z5, g5⟩ := h4.m.set4 (.int .i64 X1) (.int .i64 X2) (.int .i64 X3) (.int .i64 X4)
        have f5 := h4.f.grown g5 (by simp <;> omega)
        have kk5 := k4.grown g5 (by simp <;> omega)
        obtain ⟨w6, e6, k6, z6, g6⟩ := f5.set3 (.int .i64 G1) (.int .i64 G2) (.int .i64 G3)
        have hR6 : RM w w6 bm (G1, G2, G3) (X1, X2, X3, X4) :=
          ⟨k6, (h4.g.grown g5 (by simp <;> omega)).grown g6 (by simp <;> omega), (h4.h.grown g5 (by simp <;> omega)).grown g6 (by simp <;> omega), k5.grown g6 (by simp <;> omega), below_grown (below_grown h4.b g5 (by omega) (by have := h4.b.size; omega)) g6 (by omega) (by have := h4.b.size; omega), h4.n⟩
        have c5 := kk5.cell
        have c5f := f5.cell
        have d5f := f5.froz
        have c6f := hR6.f.cell
        have HR6 := Lib.hid hR6
        simp only at c5f c6f
        go_wp2_with fail
        go_roundw
        case rel =>
          go_light
          exact ⟨(G1, G2, G3), (X1, X2, X3, X4), HR6, HN.out, HML.out, HF.out⟩
        case measure =>
          have h0 := HCF.out
          have h1 := HMS.out
          simp [intOf, h0, c6f]
          exact h1
end Go.Proofs.Ytemnkfigjpphgaa
