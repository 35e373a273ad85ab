/-
  The reference's reduction of an indefinite form, walked.
-/
import Derived.Test.YtemnkfigjpphgaaIrc
import Derived.Test.YtemnkfigjpphgaaCont
namespace Go.Proofs.Ytemnkfigjpphgaa
open Go.RowKit
attribute [local simp, local go_sem] past_cell past_frozen past_tape
set_option maxRecDepth 100000 in
set_option maxHeartbeats 8000000 in
theorem cyReduce_any (r d a b c : Int) (w : World) (hg : Gd r d (a, b, c)) (hp : posB d = true) :
    Calls Try.prog 75 #[.agg #[.int .i64 a, .int .i64 b, .int .i64 c]] w fun e w' => (∃ (g : Fm) (N : Mt) (ok : Bool), e = .returned (.tuple #[.agg #[.int .i64 g.1, .int .i64 g.2.1, .int .i64 g.2.2], .agg #[.int .i64 N.1, .int .i64 N.2.1, .int .i64 N.2.2.1, .int .i64 N.2.2.2], .bool ok]) ∧ Rd r (a, b, c) mI g N ok) ∧ Below w.heap.size w w' := by
  go_enter Try.func75, Try.ntmps75
  have hRi : RM w ((((w.alloc (.cells #[.int .i64 a, .int .i64 b, .int .i64 c] 36)).alloc (.cells #[.int .i64 0, .int .i64 0, .int .i64 0] 36)).alloc (.cells #[.int .i64 0, .int .i64 0, .int .i64 0, .int .i64 0] 40)).alloc (.cells #[.int .i64 1, .int .i64 0, .int .i64 0, .int .i64 1] 40)) (w.heap.size + 1 + 1 + 1) (a, b, c) mI := by
    refine ⟨?_, ?_, ?_, ?_, ?_, by omega⟩
    · exact (((Blk.new w 36 #[.int .i64 a, .int .i64 b, .int .i64 c]).alloc _).alloc _).alloc _
    · have := (((Blk.new (w.alloc (.cells #[.int .i64 a, .int .i64 b, .int .i64 c] 36)) 36 #[.int .i64 0, .int .i64 0, .int .i64 0]).alloc (.cells #[.int .i64 0, .int .i64 0, .int .i64 0, .int .i64 0] 40)).alloc (.cells #[.int .i64 1, .int .i64 0, .int .i64 0, .int .i64 1] 40))
      simpa using this
    · have := ((Blk.new ((w.alloc (.cells #[.int .i64 a, .int .i64 b, .int .i64 c] 36)).alloc (.cells #[.int .i64 0, .int .i64 0, .int .i64 0] 36)) 40 #[.int .i64 0, .int .i64 0, .int .i64 0, .int .i64 0]).alloc (.cells #[.int .i64 1, .int .i64 0, .int .i64 0, .int .i64 1] 40))
      simpa using this
    · have := Blk.new (((w.alloc (.cells #[.int .i64 a, .int .i64 b, .int .i64 c] 36)).alloc (.cells #[.int .i64 0, .int .i64 0, .int .i64 0] 36)).alloc (.cells #[.int .i64 0, .int .i64 0, .int .i64 0, .int .i64 0] 40)) 40 #[.int .i64 1, .int .i64 0, .int .i64 0, .int .i64 1]
      simpa [mI] using this
    · repeat (first | with_reducible exact Below.refl _ _ | with_reducible assumption | ((with_reducible refine blA ?_ ?_); (focus (first | omega | (simp <;> omega)))) | (with_reducible refine blD ?_) | (with_reducible refine blN ?_) | ((with_reducible refine blS ?_ ?_); (focus (first | omega | (simp <;> omega)))) | ((with_reducible refine blT (by assumption) ?_ ?_); (focus (first | omega | (simp <;> omega)))))
  have HRI := Lib.hid hRi
  have HP := Lib.hid hp
  have HG := Lib.hid hg
  clear hRi hp hg
  go_wp2_with fail
  go_loopw [] (fun wr => ∃ (f : Fm) (M : Mt), Hid (RM w wr (w.heap.size + 1 + 1 + 1) f M) ∧ Hid (Gd r d f) ∧ Hid (mle 1000000 M) ∧ Hid (∀ g N ok, Rd r f M g N ok → Rd r (a, b, c) mI g N ok)) (fun wr => cMs r (intOf ((wr.cell? ⟨w.heap.size, 0, none⟩).getD undef), intOf ((wr.cell? ⟨w.heap.size, 1, none⟩).getD undef), intOf ((wr.cell? ⟨w.heap.size, 2, none⟩).getD undef)))
  case atStart =>
    exact ⟨(a, b, c), mI, HRI, HG, Lib.hid ⟨by decide, by decide, by decide, by decide⟩, Lib.hid fun _ _ _ h => h⟩
  case round =>
    obtain ⟨⟨a1, b1, c1⟩, ⟨p, q, s, t⟩, hR, hG, hM, hD⟩ := hrel
    clear HRI HG
    have HR := hR.out
    have cf := HR.f.cell
    have ff := HR.f.froz
    have cg := HR.g.cell
    have fg := HR.g.froz
    have ch := HR.h.cell
    have fh := HR.h.froz
    have cm := HR.m.cell
    have fm := HR.m.froz
    have cm : ∀ o, wr.cell? ⟨w.heap.size + 1 + 1 + 1, o, none⟩ = (#[.int .i64 p, .int .i64 q, .int .i64 s, .int .i64 t] : Array Value)[o]? := HR.m.cell
    simp only at cf
    cases hred : cyB r (a1, b1, c1) with
    | true =>
      have hcall : Hid (∀ w1, Calls Try.prog 94 #[.agg #[.int .i64 a1, .int .i64 b1, .int .i64 c1]] w1 fun en w' => en = .returned (.bool true) ∧ Below w1.heap.size w1 w') := Lib.hid fun w1 => by rw [← hred]; exact cyIs_any r d a1 b1 c1 w1 hG.out
      have HF := Lib.hid (hD.out _ _ _ (Rd.stop hred))
      clear hred HR hD
      go_wp2_with fail
      refine (hcall.out _).mono ?_
      rintro e1 w1 ⟨rfl, hB1⟩
      have h1 := hR.out.below hB1
      clear cf ff cg fg ch fh cm fm hB1 hR
      obtain ⟨h1f, h1g, h1h, h1m, h1b, h1n⟩ := h1
      have cf := h1f.cell
      have cg := h1g.cell
      have fg := h1g.froz
      have ch := h1h.cell
      have fh := h1h.froz
      have cm : ∀ o, w1.cell? ⟨w.heap.size + 1 + 1 + 1, o, none⟩ = (#[.int .i64 p, .int .i64 q, .int .i64 s, .int .i64 t] : Array Value)[o]? := h1m.cell
      have lf := h1f.lt
      have lg := h1g.lt
      have lh := h1h.lt
      have lm := h1m.lt
      simp only at cf
      obtain ⟨w2, e2, k2, z2, g2⟩ := h1g.set3 (.int .i64 a1) (.int .i64 b1) (.int .i64 c1)
      have k2h := h1h.grown g2 (by simp <;> omega)
      have k2m : ∀ o, w2.cell? ⟨w.heap.size + 1 + 1 + 1, o, none⟩ = (#[.int .i64 p, .int .i64 q, .int .i64 s, .int .i64 t] : Array Value)[o]? := (h1m.grown g2 (by simp <;> omega)).cell
      obtain ⟨w3, e3, k3, z3, g3⟩ := k2h.set4 (.int .i64 p) (.int .i64 q) (.int .i64 s) (.int .i64 t)
      have k3g := k2.grown g3 (by simp <;> omega)
      have c2h := k2h.cell
      have c3 := k3.cell
      have c3g := k3g.cell
      have f2 := k2h.froz
      have bf : Below w.heap.size w w3 := below_grown (below_grown h1b g2 (by omega) (by omega)) g3 (by omega) (by have := h1b.size; omega)
      go_wp2_with fail
      go_region
      all_goals
        go_wp2_with fail
        refine bodyPost_ret (v := .tuple #[.agg #[.int .i64 a1, .int .i64 b1, .int .i64 c1], .agg #[.int .i64 p, .int .i64 q, .int .i64 s, .int .i64 t], .bool true]) (by go_light; simp [results, Try.results75, go_sem, *]) rfl ⟨⟨(a1, b1, c1), (p, q, s, t), true, rfl, HF.out⟩, ?_⟩
        with_reducible refine blD ?_
        exact bf
    | false =>
      have HCF := Lib.hid cf
      have hcall : Hid (∀ w1, Calls Try.prog 94 #[.agg #[.int .i64 a1, .int .i64 b1, .int .i64 c1]] w1 fun en w' => en = .returned (.bool false) ∧ Below w1.heap.size w1 w') := Lib.hid fun w1 => by rw [← hred]; exact cyIs_any r d a1 b1 c1 w1 hG.out
      have hnext := Lib.hid fun w1 => specNextForm_any r d a1 b1 c1 w1 hG.out HP.out
      have hml : mle 1000000 (nmg r (a1, b1, c1)) := mB_mle.1 (nmg_mB hG.out)
      have htimes := Lib.hid fun w1 => foMul_mm (p, q, s, t) (nmg r (a1, b1, c1)) w1 hM.out hml
      have HN := Lib.hid (hG.out.next.1)
      have HMS := Lib.hid (cMs_less hG.out.root hred)
      have HBAD := Lib.hid (fun hb => hD.out _ _ _ (Rd.bad hred hb))
      have HNX := Lib.hid (fun hm g N ok hR => hD.out g N ok (Rd.next hred hm hR))
      clear hD hG hM HR hml
      obtain ⟨⟨G1, G2, G3⟩, hGe⟩ : ∃ G, nbg r (a1, b1, c1) = G := ⟨_, rfl⟩
      obtain ⟨⟨N1, N2, N3, N4⟩, hNe⟩ : ∃ N, nmg r (a1, b1, c1) = N := ⟨_, rfl⟩
      obtain ⟨⟨X1, X2, X3, X4⟩, hXe⟩ : ∃ X, mm (p, q, s, t) (nmg r (a1, b1, c1)) = X := ⟨_, rfl⟩
      rw [hGe] at hnext HN HMS HNX
      rw [hXe] at HBAD HNX htimes
      rw [hNe] at hnext htimes
      simp only at hnext htimes
      clear hGe hNe hXe hred
      go_wp2_with fail
      refine (hcall.out _).mono ?_
      rintro e1 w1 ⟨rfl, hB1⟩
      have h1 := hR.out.below hB1
      clear cf ff cg fg ch fh cm fm hB1 hR
      have cf := h1.f.cell
      simp only at cf
      go_wp2_with fail
      refine (hnext.out _).mono ?_
      rintro e2 w2 ⟨rfl, hB2⟩
      have h2 := h1.below hB2
      clear hB2 h1 cf
      have lm := h2.m.lt
      have lf := h2.f.lt
      have h2g : Blk w2.heap.size 36 #[.int .i64 G1, .int .i64 G2, .int .i64 G3] ((w2.alloc (.cells #[.int .i64 G1, .int .i64 G2, .int .i64 G3] 36)).alloc (.cells #[.int .i64 N1, .int .i64 N2, .int .i64 N3, .int .i64 N4] 40)) := (Blk.new w2 _ _).alloc _
      have hn0 : w.heap.size + 1 + 1 < w2.heap.size := by omega
      obtain ⟨y2, ey2, hy2, hyg, hyn, hyz⟩ : ∃ y2, (w2.alloc (.cells #[.int .i64 G1, .int .i64 G2, .int .i64 G3] 36)).alloc (.cells #[.int .i64 N1, .int .i64 N2, .int .i64 N3, .int .i64 N4] 40) = y2 ∧ RM w y2 (w.heap.size + 1 + 1 + 1) (a1, b1, c1) (p, q, s, t) ∧ Blk w2.heap.size 36 #[.int .i64 G1, .int .i64 G2, .int .i64 G3] y2 ∧ Blk (w2.heap.size + 1) 40 #[.int .i64 N1, .int .i64 N2, .int .i64 N3, .int .i64 N4] y2 ∧ y2.heap.size = w2.heap.size + 1 + 1 := by
        refine ⟨_, rfl, (h2.alloc _).alloc _, h2g, ?_, by simp⟩
        have := Blk.new (w2.alloc (.cells #[.int .i64 G1, .int .i64 G2, .int .i64 G3] 36)) 40 #[.int .i64 N1, .int .i64 N2, .int .i64 N3, .int .i64 N4]
        simpa using this
      clear h2g h2
      obtain ⟨bg, hbg⟩ : ∃ bg, w2.heap.size = bg := ⟨_, rfl⟩
      rw [hbg] at hyg hyn lf lm hn0
      clear hyz
      have cyf : ∀ o, y2.cell? ⟨w.heap.size + 1 + 1 + 1, o, none⟩ = (#[.int .i64 p, .int .i64 q, .int .i64 s, .int .i64 t] : Array Value)[o]? := hy2.m.cell
      have cyg := hyg.cell
      have cyn := hyn.cell
      have lyg := hyg.lt
      have lyn := hyn.lt
      have lym := hy2.m.lt
      go_wp2_with fail
      try rw [ey2]
      refine wp_region_past_tail 4 (by kernel_rfl) (by kernel_rfl) ?_
      simp only [List.take_succ_cons, List.take_zero, List.drop_succ_cons, List.drop_zero]
      repeat (first | go_big_quiet_skip | (go_big_quiet_want; go_big_quiet_op; first | go_big_quiet_on | (apply Exists.intro; refine ⟨fun _ => ?_, ?_⟩; (focus ((go_at_call 80; exact past_of (htimes.out _)))); go_big_quiet_on)))
      refine wpQuiet_nil ?_
      intro w1 hw'
      have hB1 := past_below hw'
      clear hw'
      obtain ⟨hC1, hF1⟩ := bcell hB1
      have hS1 := hB1.size
      (try simp at hS1)
      (try have hS1_w0 : w.heap.size < w1.heap.size := by omega)
      (try have hS1_w1 : w.heap.size + 1 < w1.heap.size := by omega)
      (try have hS1_w2 : w.heap.size + 1 + 1 < w1.heap.size := by omega)
      (try have hS1_w3 : w.heap.size + 1 + 1 + 1 < w1.heap.size := by omega)
      (try have hS1_w4 : w.heap.size + 1 + 1 + 1 + 1 < w1.heap.size := by omega)
      have h3 := hy2.below hB1
      clear hB1 hC1 hF1 cyf cyg cyn ey2 hyg hyn hy2
      have cm : ∀ o, w1.cell? ⟨w.heap.size + 1 + 1 + 1, o, none⟩ = (#[.int .i64 p, .int .i64 q, .int .i64 s, .int .i64 t] : Array Value)[o]? := h3.m.cell
      have fm := h3.m.froz
      have cf3 := h3.f.cell
      have ff3 := h3.f.froz
      have lf3 := h3.f.lt
      have lm3 := h3.m.lt
      simp only at cf3
      obtain ⟨w5, e5, k5, z5, g5⟩ := h3.f.set3 (.int .i64 G1) (.int .i64 G2) (.int .i64 G3)
      have km5 := h3.m.grown g5 (by simp <;> omega)
      obtain ⟨w6, e6, k6, z6, g6⟩ := km5.set4 (.int .i64 X1) (.int .i64 X2) (.int .i64 X3) (.int .i64 X4)
      have hR6 : RM w w6 (w.heap.size + 1 + 1 + 1) (G1, G2, G3) (X1, X2, X3, X4) :=
        ⟨k5.grown g6 (by simp <;> omega), (h3.g.grown g5 (by simp <;> omega)).grown g6 (by simp <;> omega), (h3.h.grown g5 (by simp <;> omega)).grown g6 (by simp <;> omega), k6, below_grown (below_grown h3.b g5 (by omega) (by have := h3.b.size; omega)) g6 (by omega) (by have := h3.b.size; omega), h3.n⟩
      have cm5 : ∀ o, w5.cell? ⟨w.heap.size + 1 + 1 + 1, o, none⟩ = (#[.int .i64 p, .int .i64 q, .int .i64 s, .int .i64 t] : Array Value)[o]? := km5.cell
      have fm5 := km5.froz
      have c6m : ∀ o, w6.cell? ⟨w.heap.size + 1 + 1 + 1, o, none⟩ = (#[.int .i64 X1, .int .i64 X2, .int .i64 X3, .int .i64 X4] : Array Value)[o]? := hR6.m.cell
      have HR6 := Lib.hid hR6
      clear h3 k5 km5 k6 hR6
      cases hmb : mB X1 X2 X3 X4 with
      | false =>
        have hch : Hid (∀ w1, Calls Try.prog 81 #[.agg #[.int .i64 X1, .int .i64 X2, .int .i64 X3, .int .i64 X4]] w1 fun en w' => en = .returned (.bool false) ∧ Below w1.heap.size w1 w') := Lib.hid fun w1 => by have h := sMatrix_any X1 X2 X3 X4 w1; rwa [hmb] at h
        have HF := Lib.hid (HBAD.out (fun h => by have := (mB_mle (M := (X1, X2, X3, X4))).2 h; rw [hmb] at this; cases this))
        clear hmb HBAD HNX
        go_wp2_with fail
        refine (hch.out _).mono ?_
        rintro e4 w4 ⟨rfl, hB4⟩
        have h4 := HR6.out.below hB4
        clear hB4 HR6 c6m cm5 fm5 cm fm cf3 ff3 e5 e6 g5 g6
        have cg := h4.g.cell
        have fg := h4.g.froz
        have ch := h4.h.cell
        have fh := h4.h.froz
        have lg := h4.g.lt
        have lh := h4.h.lt
        have hb4 := h4.b
        go_wp2_with fail
        refine bodyPost_ret (v := .tuple #[.agg #[.int .i64 0, .int .i64 0, .int .i64 0], .agg #[.int .i64 0, .int .i64 0, .int .i64 0, .int .i64 0], .bool false]) (by go_light; simp [results, Try.results75, go_sem, *]) rfl ⟨⟨(0, 0, 0), (0, 0, 0, 0), false, rfl, HF.out⟩, ?_⟩
        repeat (first | with_reducible exact Below.refl _ _ | with_reducible assumption | ((with_reducible refine blA ?_ ?_); (focus (first | omega | (simp <;> omega)))) | (with_reducible refine blD ?_) | (with_reducible refine blN ?_) | ((with_reducible refine blS ?_ ?_); (focus (first | omega | (simp <;> omega)))) | ((with_reducible refine blT (by assumption) ?_ ?_); (focus (first | omega | (simp <;> omega)))))
      | true =>
        have hch : Hid (∀ w1, Calls Try.prog 81 #[.agg #[.int .i64 X1, .int .i64 X2, .int .i64 X3, .int .i64 X4]] w1 fun en w' => en = .returned (.bool true) ∧ Below w1.heap.size w1 w') := Lib.hid fun w1 => by have h := sMatrix_any X1 X2 X3 X4 w1; rwa [hmb] at h
        have HF := Lib.hid (HNX.out ((mB_mle (M := (X1, X2, X3, X4))).1 hmb))
        have HML := Lib.hid ((mB_mle (M := (X1, X2, X3, X4))).1 hmb)
        clear hmb HBAD HNX
        go_wp2_with fail
        refine (hch.out _).mono ?_
        rintro e4 w4 ⟨rfl, hB4⟩
        have h4 := HR6.out.below hB4
        clear hB4 HR6 c6m cm5 fm5 cm fm cf3 ff3 e5 e6 g5 g6
        have c6f := h4.f.cell
        have HR6 := Lib.hid h4
        simp only at c6f
        go_wp2_with fail
        go_roundw
        case rel =>
          go_light
          exact ⟨(G1, G2, G3), (X1, X2, X3, X4), HR6, HN.out, HML.out, HF.out⟩
        case measure =>
          have h0 := HCF.out
          have h1 := HMS.out
          simp [intOf, h0, c6f]
          exact h1
end Go.Proofs.Ytemnkfigjpphgaa

/-
  The cycle of a form, walked in the program.
-/
namespace Go.Proofs.Ytemnkfigjpphgaa
open Go.RowKit
attribute [local simp, local go_sem] past_cell past_frozen past_tape
/-- The blocks of the cycle's loop: the form it began with, the form it stands at (block b), the list. -/
structure CB (w wr : World) (v : Value) (b : Nat) (f g : Fm) (l : List Fm) : Prop where
  f : Blk w.heap.size 36 #[.int .i64 f.1, .int .i64 f.2.1, .int .i64 f.2.2] wr
  g : Blk b 36 #[.int .i64 g.1, .int .i64 g.2.1, .int .i64 g.2.2] wr
  l : Rw (w.heap.size + 1) 36 3 c3 wr v l
  bl : Below w.heap.size w wr
  n : w.heap.size < b
  a : ∀ h, v.ownBlock = some h → h < b
theorem CB.below {w wr w' : World} {v : Value} {b : Nat} {f g : Fm} {l : List Fm} (h : CB w wr v b f g l) (hb : Below wr.heap.size wr w') : CB w w' v b f g l :=
  ⟨h.f.below hb, h.g.below hb, h.l.later hb, h.bl.trans (hb.mono h.bl.size), h.n, h.a⟩
theorem CB.alloc {w wr : World} {v : Value} {b : Nat} {f g : Fm} {l : List Fm} (h : CB w wr v b f g l) (o : Obj) : CB w (wr.alloc o) v b f g l :=
  ⟨h.f.alloc o, h.g.alloc o, h.l.alloc o, h.bl.alloc (by have := h.bl.size; omega) _, h.n, h.a⟩
/-- How far the loop has come. -/
structure CI (r d : Int) (n : Nat) (f : Fm) (k : Nat) : Prop where
  cy : Cy r f
  gd : Gd r d f
  lt : k + 1 ≤ n
  n2 : n ≤ 2100
  ret : nbn r n f = f
  first : ∀ k, 0 < k → k < n → nbn r k f ≠ f
theorem CI.at_ {r d : Int} {n : Nat} {f : Fm} {k : Nat} (h : CI r d n f k) : Cy r (nbn r (k + 1) f) ∧ Gd r d (nbn r (k + 1) f) ∧ nbg r (nbn r (k + 1) f) = nbn r (k + 1 + 1) f := by
  obtain ⟨c1, c2⟩ := h.cy.nth (k + 1) h.gd.root
  have hd : fdisc (nbn r (k + 1) f) = d := by rw [nbn_disc]; exact h.gd.ds
  have hgd : Gd r d (nbn r (k + 1) f) := by
    have : ∀ j, Gd r d (nbn r j f) := by
      intro j
      induction j with
      | zero => exact h.gd
      | succ j ih =>
        rw [nbn_succ]
        obtain ⟨e1, e2⟩ := h.cy.nth j h.gd.root
        rw [← (e1.nbg e2).1]
        exact ih.next.1
    exact this (k + 1)
  refine ⟨c1, hgd, ?_⟩
  rw [nbn_succ r (k + 1) f, (c1.nbg c2).1]
theorem nbn_gd {r d : Int} {f : Fm} (hc : Cy r f) (h : Gd r d f) : ∀ j, Gd r d (nbn r j f)
  | 0 => h
  | j + 1 => by
    rw [nbn_succ]
    obtain ⟨e1, e2⟩ := hc.nth j h.root
    rw [← (e1.nbg e2).1]
    exact (nbn_gd hc h j).next.1
set_option maxRecDepth 100000 in
set_option maxHeartbeats 8000000 in
theorem cycle_any (r d : Int) (n : Nat) (a b c : Int) (w : World) (hi : CI r d n (a, b, c) 0) :
    Calls Try.prog 67 #[.agg #[.int .i64 a, .int .i64 b, .int .i64 c]] w fun e w' => (∃ v, e = .returned v ∧ Rw w.heap.size 36 3 c3 w' v (cyc r n (a, b, c))) ∧ Below w.heap.size w w' := by
  have HI := Lib.hid hi
  have hnb := Lib.hid fun w0 => neighbour_any r d a b c w0 hi.gd
  have hN1 : Hid (nbg r (a, b, c) = nbn r 1 (a, b, c)) := Lib.hid (hi.cy.nbg hi.gd.root).1
  rw [hN1.out] at hnb
  obtain ⟨⟨N1, N2, N3, N4⟩, hNe⟩ : ∃ N, nmg r (a, b, c) = N := ⟨_, rfl⟩
  obtain ⟨⟨G1, G2, G3⟩, hGe⟩ : ∃ G, nbn r 1 (a, b, c) = G := ⟨_, rfl⟩
  rw [hNe, hGe] at hnb
  have HGE := Lib.hid hGe
  simp only at hnb
  clear hi hNe hGe
  go_enter Try.func67, Try.ntmps67
  go_wp2_with fail
  refine (hnb.out _).mono ?_
  rintro e1 w1 ⟨rfl, hB1⟩
  have h1f := ((Blk.new w 36 #[.int .i64 a, .int .i64 b, .int .i64 c]).alloc _).below hB1
  have h1l := (Rw.single (B := w.heap.size + 1) (w := w.alloc (.cells #[.int .i64 a, .int .i64 b, .int .i64 c] 36)) (a, b, c) (by simp)).later hB1
  have h1b : Below w.heap.size w w1 := by repeat (first | with_reducible exact Below.refl _ _ | with_reducible assumption | ((with_reducible refine blA ?_ ?_); (focus (first | omega | (simp <;> omega)))) | (with_reducible refine blD ?_) | (with_reducible refine blN ?_) | ((with_reducible refine blS ?_ ?_); (focus (first | omega | (simp <;> omega)))) | ((with_reducible refine blT (by assumption) ?_ ?_); (focus (first | omega | (simp <;> omega)))))
  have hz1 := hB1.size
  simp at hz1
  obtain ⟨y, ey, hy, hym⟩ : ∃ y, (w1.alloc (.cells #[.int .i64 G1, .int .i64 G2, .int .i64 G3] 36)).alloc (.cells #[.int .i64 N1, .int .i64 N2, .int .i64 N3, .int .i64 N4] 40) = y ∧ CB w y (.slice (some ⟨w.heap.size + 1, 0, none⟩) 1 1) w1.heap.size (a, b, c) (G1, G2, G3) [(a, b, c)] ∧ Blk (w1.heap.size + 1) 40 #[.int .i64 N1, .int .i64 N2, .int .i64 N3, .int .i64 N4] y := by
    refine ⟨_, rfl, ⟨(h1f.alloc _).alloc _, (Blk.new w1 _ _).alloc _, ?_, (h1b.alloc (by omega) _).alloc (by simp; omega) _, by omega, ?_⟩, ?_⟩
    · have := (h1l.alloc (.cells #[.int .i64 G1, .int .i64 G2, .int .i64 G3] 36)).alloc (.cells #[.int .i64 N1, .int .i64 N2, .int .i64 N3, .int .i64 N4] 40)
      simpa using this
    · intro h hh
      simp [Value.ownBlock] at hh
      omega
    · have := Blk.new (w1.alloc (.cells #[.int .i64 G1, .int .i64 G2, .int .i64 G3] 36)) 40 #[.int .i64 N1, .int .i64 N2, .int .i64 N3, .int .i64 N4]
      simpa using this
  have HY := Lib.hid hy
  have HYM := Lib.hid hym
  clear h1f h1l h1b hB1 hz1 hy hym
  obtain ⟨bb, hbb⟩ : ∃ bb, w1.heap.size = bb := ⟨_, rfl⟩
  rw [hbb] at HY HYM
  go_wp2_with fail
  try rw [ey]
  try rw [hbb]
  clear ey hbb
  go_loopw [3, 4, 5] (fun v p q wr => ∃ (k : Nat) (b1 b2 : Nat) (g : Fm), p = .pointer (some ⟨b1, 0, none⟩) ∧ q = .pointer (some ⟨b2, 0, none⟩) ∧ nbn r (k + 1) (a, b, c) = g ∧ Hid (CI r d n (a, b, c) k) ∧ Hid (CB w wr v b1 (a, b, c) g (cyc r (k + 1) (a, b, c))) ∧ Hid (Blk b2 40 #[.int .i64 N1, .int .i64 N2, .int .i64 N3, .int .i64 N4] wr) ∧ Hid (∀ h, v.ownBlock = some h → h < b2)) (fun v _ _ _ => n - (match v with | .slice _ l _ => l | _ => 0))
  case atStart =>
    refine ⟨0, bb, bb + 1, (G1, G2, G3), rfl, rfl, HGE.out, HI, HY, HYM, Lib.hid fun h hh => ?_⟩
    have := HY.out.a h hh
    omega
  case round =>
    obtain ⟨k, b1, b2, ⟨g1, g2, g3⟩, rfl, rfl, hge, hI, hR, hM, hA⟩ := hrel
    clear HY HYM HGE HI
    have hlen := cyc_length r (k + 1) (a, b, c)
    have HLK := Lib.hid hI.out.lt
    have HN2 := Lib.hid hI.out.n2
    obtain ⟨va, vc, hv, hvc, _, _⟩ := hR.out.l.sees c3_len
    rw [hlen] at hv hvc
    subst hv
    have cf := hR.out.f.cell
    have cg := hR.out.g.cell
    have lf := hR.out.f.lt
    have lg := hR.out.g.lt
    have lm := hM.out.lt
    have hbz := hR.out.bl.size
    simp only at cf cg
    by_cases hend : (g1, g2, g3) = (a, b, c)
    · have hkn : k + 1 = n := by
        have h1 := HLK.out
        rcases (show k + 1 < n ∨ k + 1 = n by omega) with h2 | h2
        · exact absurd (by rw [hge]; exact hend) (hI.out.first (k + 1) (by omega) h2)
        · exact h2
      have HKN := Lib.hid hkn
      simp only [Prod.mk.injEq] at hend
      obtain ⟨rfl, rfl, rfl⟩ := hend
      clear hkn hge hlen
      go_wp2_with fail
      go_ret
      exact ⟨⟨_, rfl, by rw [← HKN.out]; exact hR.out.l.mono (by omega)⟩, hR.out.bl⟩
    · have hlt : k + 1 < n := by
        have h1 := HLK.out
        rcases (show k + 1 < n ∨ k + 1 = n by omega) with h2 | h2
        · exact h2
        · exfalso
          apply hend
          rw [← hge, h2]
          exact hI.out.ret
      have HLT := Lib.hid hlt
      obtain ⟨c1, c2, c3'⟩ := hI.out.at_
      rw [hge] at c2 c3'
      have hnb1 := Lib.hid fun w0 => neighbour_any r d g1 g2 g3 w0 c2
      rw [c3'] at hnb1
      have HS : Hid (cyc r (k + 1 + 1) (a, b, c) = cyc r (k + 1) (a, b, c) ++ [(g1, g2, g3)]) := Lib.hid (by rw [cyc_succ, hge])
      obtain ⟨⟨P1, P2, P3, P4⟩, hPe⟩ : ∃ N, nmg r (g1, g2, g3) = N := ⟨_, rfl⟩
      obtain ⟨⟨X1, X2, X3⟩, hXe⟩ : ∃ G, nbn r (k + 1 + 1) (a, b, c) = G := ⟨_, rfl⟩
      rw [hPe, hXe] at hnb1
      have HXE := Lib.hid hXe
      simp only at hnb1
      have HEND := Lib.hid hend
      have hne : g1 = a → g2 = b → ¬ g3 = c := fun h1 h2 h3 => HEND.out (by rw [h1, h2, h3])
      have cm := hM.out.cell
      have hlen6 : (cyc r (k + 1) (a, b, c)).length ≤ 1000000 := by rw [hlen]; have := HN2.out; omega
      clear c1 c2 c3' hPe hXe hge hend hlt hlen
      have split3 : ¬ g1 = a ∨ (g1 = a ∧ ¬ g2 = b) ∨ (g1 = a ∧ g2 = b ∧ ¬ g3 = c) := by
        by_cases e1 : g1 = a
        · by_cases e2 : g2 = b
          · exact .inr (.inr ⟨e1, e2, hne e1 e2⟩)
          · exact .inr (.inl ⟨e1, e2⟩)
        · exact .inl e1
      have HBZ := Lib.hid hbz
      clear hne
      rcases split3 with e1 | ⟨e1, e2⟩ | ⟨e1, e2, e3⟩
      · go_wp2_with (at_builtin; go_loud (refine app_formI (hR.out.l.alloc _) (by rfl) _ _ _ (by rfl) (by kernel_rfl) (by rfl) _ (_, _, _) (by rfl) (heap_alloc_new _ _) hlen6 (by simp; omega) ?_))
        intro v3 w3 hr3 hg3 hat3
        rw [← HS.out] at hr3
        have hz3 := hg3.size
        simp at hz3
        have hf3 := (hR.out.f.alloc _).grown hg3 (fun e => by have := (hR.out.l.lt _ e.symm).1; omega)
        have hg3' := (hR.out.g.alloc _).grown hg3 (fun e => by have := hR.out.a _ e.symm; omega)
        have hm3 := (hM.out.alloc _).grown hg3 (fun e => by have := hA.out _ e.symm; omega)
        have hb3 : Below w.heap.size w w3 := below_of_grown (hR.out.bl.alloc HBZ.out _) hg3 (by simp; omega) (fun g hg => by have := (hR.out.l.lt g hg).1; omega)
        have hbz3 := hb3.size
        obtain ⟨va3, vc3, hv3, _, _, _⟩ := hr3.sees c3_len
        rw [cyc_length] at hv3
        subst hv3
        have hl3 := fun h hh => (hr3.lt h hh).2
        have cg3 := hg3'.cell
        have cm3 := hm3.cell
        have cf3 := hf3.cell
        have lg3 := hg3'.lt
        have lm3 := hm3.lt
        have lf3 := hf3.lt
        simp only at cg3 cf3
        have HF3 := Lib.hid hf3
        have HB3 := Lib.hid hb3
        have HR3 := Lib.hid hr3
        have HL3 := Lib.hid hl3
        clear hg3 hat3 hR hM hA cf cg cm lf lg lm hr3 hf3 hg3' hm3 hb3 hl3 hlen6
        obtain ⟨y3, ey3, hyf, hyg, hym, hyl, hyb, hyz⟩ : ∃ y3, (w3.alloc (.cells #[.int .i64 g1, .int .i64 g2, .int .i64 g3] 36)).alloc (.cells #[.int .i64 N1, .int .i64 N2, .int .i64 N3, .int .i64 N4] 40) = y3 ∧ Blk w.heap.size 36 #[.int .i64 a, .int .i64 b, .int .i64 c] y3 ∧ Blk w3.heap.size 36 #[.int .i64 g1, .int .i64 g2, .int .i64 g3] y3 ∧ Blk (w3.heap.size + 1) 40 #[.int .i64 N1, .int .i64 N2, .int .i64 N3, .int .i64 N4] y3 ∧ Rw (w.heap.size + 1) 36 3 c3 y3 (.slice va3 (k + 1 + 1) vc3) (cyc r (k + 1 + 1) (a, b, c)) ∧ Below w.heap.size w y3 ∧ y3.heap.size = w3.heap.size + 1 + 1 := by
          refine ⟨_, rfl, (HF3.out.alloc _).alloc _, (Blk.new w3 _ _).alloc _, ?_, (HR3.out.alloc _).alloc _, (HB3.out.alloc hbz3 _).alloc (by simp; omega) _, by simp⟩
          have := Blk.new (w3.alloc (.cells #[.int .i64 g1, .int .i64 g2, .int .i64 g3] 36)) 40 #[.int .i64 N1, .int .i64 N2, .int .i64 N3, .int .i64 N4]
          simpa using this
        have HYZ := Lib.hid hyz
        have cyg3 := hyg.cell
        have lyg3 := hyg.lt
        clear hyz
        go_wp2_with fail
        try rw [ey3]
        refine (hnb1.out _).mono ?_
        rintro e4 w4 ⟨rfl, hB4⟩
        have hf4 := hyf.below hB4
        have hg4 := hyg.below hB4
        have hm4 := hym.below hB4
        have hl4 := hyl.later hB4
        have hb4 : Below w.heap.size w w4 := hyb.trans (hB4.mono hyb.size)
        have hz4 := hB4.size
        rw [HYZ.out] at hz4
        clear cyg3 lyg3 HYZ hyf hyg hym hyl hyb hB4 ey3 cg3 cm3 cf3
        have cg4 := hg4.cell
        have fg4 := hg4.froz
        obtain ⟨w5, e5, k5, z5, g5⟩ := hg4.set3 (.int .i64 X1) (.int .i64 X2) (.int .i64 X3)
        have hR5 : CB w w5 (.slice va3 (k + 1 + 1) vc3) w3.heap.size (a, b, c) (X1, X2, X3) (cyc r (k + 1 + 1) (a, b, c)) :=
          ⟨hf4.grown g5 (by simp <;> omega), k5, hl4.apart g5 (by right; intro e; have := HL3.out _ e; omega), below_grown hb4 g5 (by omega) (by have := hb4.size; omega), by omega, HL3.out⟩
        have hM5 := hm4.grown g5 (by simp <;> omega)
        have HR5 := Lib.hid hR5
        have HM5 := Lib.hid hM5
        clear hf4 hm4 hl4 hb4 hz4 hR5 hM5 k5 hg4
        go_wp2_with fail
        go_roundw
        case rel =>
          go_light
          refine ⟨k + 1, w3.heap.size, w3.heap.size + 1, (X1, X2, X3), rfl, rfl, HXE.out, Lib.hid ⟨hI.out.cy, hI.out.gd, by have := HLT.out; omega, hI.out.n2, hI.out.ret, hI.out.first⟩, HR5, HM5, Lib.hid fun h hh => by have := HL3.out h hh; omega⟩
        case measure =>
          have := HLT.out
          simp
          omega
      · subst e1
        go_wp2_with (at_builtin; go_loud (refine app_formI (hR.out.l.alloc _) (by rfl) _ _ _ (by rfl) (by kernel_rfl) (by rfl) _ (_, _, _) (by rfl) (heap_alloc_new _ _) hlen6 (by simp; omega) ?_))
        intro v3 w3 hr3 hg3 hat3
        rw [← HS.out] at hr3
        have hz3 := hg3.size
        simp at hz3
        have hf3 := (hR.out.f.alloc _).grown hg3 (fun e => by have := (hR.out.l.lt _ e.symm).1; omega)
        have hg3' := (hR.out.g.alloc _).grown hg3 (fun e => by have := hR.out.a _ e.symm; omega)
        have hm3 := (hM.out.alloc _).grown hg3 (fun e => by have := hA.out _ e.symm; omega)
        have hb3 : Below w.heap.size w w3 := below_of_grown (hR.out.bl.alloc HBZ.out _) hg3 (by simp; omega) (fun g hg => by have := (hR.out.l.lt g hg).1; omega)
        have hbz3 := hb3.size
        obtain ⟨va3, vc3, hv3, _, _, _⟩ := hr3.sees c3_len
        rw [cyc_length] at hv3
        subst hv3
        have hl3 := fun h hh => (hr3.lt h hh).2
        have cg3 := hg3'.cell
        have cm3 := hm3.cell
        have cf3 := hf3.cell
        have lg3 := hg3'.lt
        have lm3 := hm3.lt
        have lf3 := hf3.lt
        simp only at cg3 cf3
        have HF3 := Lib.hid hf3
        have HB3 := Lib.hid hb3
        have HR3 := Lib.hid hr3
        have HL3 := Lib.hid hl3
        clear hg3 hat3 hR hM hA cf cg cm lf lg lm hr3 hf3 hg3' hm3 hb3 hl3 hlen6
        obtain ⟨y3, ey3, hyf, hyg, hym, hyl, hyb, hyz⟩ : ∃ y3, (w3.alloc (.cells #[.int .i64 g1, .int .i64 g2, .int .i64 g3] 36)).alloc (.cells #[.int .i64 N1, .int .i64 N2, .int .i64 N3, .int .i64 N4] 40) = y3 ∧ Blk w.heap.size 36 #[.int .i64 g1, .int .i64 b, .int .i64 c] y3 ∧ Blk w3.heap.size 36 #[.int .i64 g1, .int .i64 g2, .int .i64 g3] y3 ∧ Blk (w3.heap.size + 1) 40 #[.int .i64 N1, .int .i64 N2, .int .i64 N3, .int .i64 N4] y3 ∧ Rw (w.heap.size + 1) 36 3 c3 y3 (.slice va3 (k + 1 + 1) vc3) (cyc r (k + 1 + 1) (g1, b, c)) ∧ Below w.heap.size w y3 ∧ y3.heap.size = w3.heap.size + 1 + 1 := by
          refine ⟨_, rfl, (HF3.out.alloc _).alloc _, (Blk.new w3 _ _).alloc _, ?_, (HR3.out.alloc _).alloc _, (HB3.out.alloc hbz3 _).alloc (by simp; omega) _, by simp⟩
          have := Blk.new (w3.alloc (.cells #[.int .i64 g1, .int .i64 g2, .int .i64 g3] 36)) 40 #[.int .i64 N1, .int .i64 N2, .int .i64 N3, .int .i64 N4]
          simpa using this
        have HYZ := Lib.hid hyz
        have cyg3 := hyg.cell
        have lyg3 := hyg.lt
        clear hyz
        go_wp2_with fail
        try rw [ey3]
        refine (hnb1.out _).mono ?_
        rintro e4 w4 ⟨rfl, hB4⟩
        have hf4 := hyf.below hB4
        have hg4 := hyg.below hB4
        have hm4 := hym.below hB4
        have hl4 := hyl.later hB4
        have hb4 : Below w.heap.size w w4 := hyb.trans (hB4.mono hyb.size)
        have hz4 := hB4.size
        rw [HYZ.out] at hz4
        clear cyg3 lyg3 HYZ hyf hyg hym hyl hyb hB4 ey3 cg3 cm3 cf3
        have cg4 := hg4.cell
        have fg4 := hg4.froz
        obtain ⟨w5, e5, k5, z5, g5⟩ := hg4.set3 (.int .i64 X1) (.int .i64 X2) (.int .i64 X3)
        have hR5 : CB w w5 (.slice va3 (k + 1 + 1) vc3) w3.heap.size (g1, b, c) (X1, X2, X3) (cyc r (k + 1 + 1) (g1, b, c)) :=
          ⟨hf4.grown g5 (by simp <;> omega), k5, hl4.apart g5 (by right; intro e; have := HL3.out _ e; omega), below_grown hb4 g5 (by omega) (by have := hb4.size; omega), by omega, HL3.out⟩
        have hM5 := hm4.grown g5 (by simp <;> omega)
        have HR5 := Lib.hid hR5
        have HM5 := Lib.hid hM5
        clear hf4 hm4 hl4 hb4 hz4 hR5 hM5 k5 hg4
        go_wp2_with fail
        go_roundw
        case rel =>
          go_light
          refine ⟨k + 1, w3.heap.size, w3.heap.size + 1, (X1, X2, X3), rfl, rfl, HXE.out, Lib.hid ⟨hI.out.cy, hI.out.gd, by have := HLT.out; omega, hI.out.n2, hI.out.ret, hI.out.first⟩, HR5, HM5, Lib.hid fun h hh => by have := HL3.out h hh; omega⟩
        case measure =>
          have := HLT.out
          simp
          omega
      · subst e1
        subst e2
        go_wp2_with (at_builtin; go_loud (refine app_formI (hR.out.l.alloc _) (by rfl) _ _ _ (by rfl) (by kernel_rfl) (by rfl) _ (_, _, _) (by rfl) (heap_alloc_new _ _) hlen6 (by simp; omega) ?_))
        intro v3 w3 hr3 hg3 hat3
        rw [← HS.out] at hr3
        have hz3 := hg3.size
        simp at hz3
        have hf3 := (hR.out.f.alloc _).grown hg3 (fun e => by have := (hR.out.l.lt _ e.symm).1; omega)
        have hg3' := (hR.out.g.alloc _).grown hg3 (fun e => by have := hR.out.a _ e.symm; omega)
        have hm3 := (hM.out.alloc _).grown hg3 (fun e => by have := hA.out _ e.symm; omega)
        have hb3 : Below w.heap.size w w3 := below_of_grown (hR.out.bl.alloc HBZ.out _) hg3 (by simp; omega) (fun g hg => by have := (hR.out.l.lt g hg).1; omega)
        have hbz3 := hb3.size
        obtain ⟨va3, vc3, hv3, _, _, _⟩ := hr3.sees c3_len
        rw [cyc_length] at hv3
        subst hv3
        have hl3 := fun h hh => (hr3.lt h hh).2
        have cg3 := hg3'.cell
        have cm3 := hm3.cell
        have cf3 := hf3.cell
        have lg3 := hg3'.lt
        have lm3 := hm3.lt
        have lf3 := hf3.lt
        simp only at cg3 cf3
        have HF3 := Lib.hid hf3
        have HB3 := Lib.hid hb3
        have HR3 := Lib.hid hr3
        have HL3 := Lib.hid hl3
        clear hg3 hat3 hR hM hA cf cg cm lf lg lm hr3 hf3 hg3' hm3 hb3 hl3 hlen6
        obtain ⟨y3, ey3, hyf, hyg, hym, hyl, hyb, hyz⟩ : ∃ y3, (w3.alloc (.cells #[.int .i64 g1, .int .i64 g2, .int .i64 g3] 36)).alloc (.cells #[.int .i64 N1, .int .i64 N2, .int .i64 N3, .int .i64 N4] 40) = y3 ∧ Blk w.heap.size 36 #[.int .i64 g1, .int .i64 g2, .int .i64 c] y3 ∧ Blk w3.heap.size 36 #[.int .i64 g1, .int .i64 g2, .int .i64 g3] y3 ∧ Blk (w3.heap.size + 1) 40 #[.int .i64 N1, .int .i64 N2, .int .i64 N3, .int .i64 N4] y3 ∧ Rw (w.heap.size + 1) 36 3 c3 y3 (.slice va3 (k + 1 + 1) vc3) (cyc r (k + 1 + 1) (g1, g2, c)) ∧ Below w.heap.size w y3 ∧ y3.heap.size = w3.heap.size + 1 + 1 := by
          refine ⟨_, rfl, (HF3.out.alloc _).alloc _, (Blk.new w3 _ _).alloc _, ?_, (HR3.out.alloc _).alloc _, (HB3.out.alloc hbz3 _).alloc (by simp; omega) _, by simp⟩
          have := Blk.new (w3.alloc (.cells #[.int .i64 g1, .int .i64 g2, .int .i64 g3] 36)) 40 #[.int .i64 N1, .int .i64 N2, .int .i64 N3, .int .i64 N4]
          simpa using this
        have HYZ := Lib.hid hyz
        have cyg3 := hyg.cell
        have lyg3 := hyg.lt
        clear hyz
        go_wp2_with fail
        try rw [ey3]
        refine (hnb1.out _).mono ?_
        rintro e4 w4 ⟨rfl, hB4⟩
        have hf4 := hyf.below hB4
        have hg4 := hyg.below hB4
        have hm4 := hym.below hB4
        have hl4 := hyl.later hB4
        have hb4 : Below w.heap.size w w4 := hyb.trans (hB4.mono hyb.size)
        have hz4 := hB4.size
        rw [HYZ.out] at hz4
        clear cyg3 lyg3 HYZ hyf hyg hym hyl hyb hB4 ey3 cg3 cm3 cf3
        have cg4 := hg4.cell
        have fg4 := hg4.froz
        obtain ⟨w5, e5, k5, z5, g5⟩ := hg4.set3 (.int .i64 X1) (.int .i64 X2) (.int .i64 X3)
        have hR5 : CB w w5 (.slice va3 (k + 1 + 1) vc3) w3.heap.size (g1, g2, c) (X1, X2, X3) (cyc r (k + 1 + 1) (g1, g2, c)) :=
          ⟨hf4.grown g5 (by simp <;> omega), k5, hl4.apart g5 (by right; intro e; have := HL3.out _ e; omega), below_grown hb4 g5 (by omega) (by have := hb4.size; omega), by omega, HL3.out⟩
        have hM5 := hm4.grown g5 (by simp <;> omega)
        have HR5 := Lib.hid hR5
        have HM5 := Lib.hid hM5
        clear hf4 hm4 hl4 hb4 hz4 hR5 hM5 k5 hg4
        go_wp2_with fail
        go_roundw
        case rel =>
          go_light
          refine ⟨k + 1, w3.heap.size, w3.heap.size + 1, (X1, X2, X3), rfl, rfl, HXE.out, Lib.hid ⟨hI.out.cy, hI.out.gd, by have := HLT.out; omega, hI.out.n2, hI.out.ret, hI.out.first⟩, HR5, HM5, Lib.hid fun h hh => by have := HL3.out h hh; omega⟩
        case measure =>
          have := HLT.out
          simp
          omega
end Go.Proofs.Ytemnkfigjpphgaa

/-
  The cycle of a form, walked in the reference.
-/
namespace Go.Proofs.Ytemnkfigjpphgaa
open Go.RowKit
attribute [local simp, local go_sem] past_cell past_frozen past_tape
set_option maxRecDepth 100000 in
set_option maxHeartbeats 8000000 in
theorem cyCycle_any (r d : Int) (n : Nat) (a b c : Int) (w : World) (hi : CI r d n (a, b, c) 0) :
    Calls Try.prog 77 #[.agg #[.int .i64 a, .int .i64 b, .int .i64 c]] w fun e w' => (∃ v, e = .returned v ∧ Rw w.heap.size 36 3 c3 w' v (cyc r n (a, b, c))) ∧ Below w.heap.size w w' := by
  have HI := Lib.hid hi
  have hmv := Lib.hid fun w0 => cyMove_any r d a b c w0 hi.gd
  have hac := Lib.hid fun w0 => foActN_any r d a b c w0 hi.gd
  have hN1 : Hid (nbg r (a, b, c) = nbn r 1 (a, b, c)) := Lib.hid (hi.cy.nbg hi.gd.root).1
  rw [hN1.out] at hac
  obtain ⟨⟨N1, N2, N3, N4⟩, hNe⟩ : ∃ N, nmg r (a, b, c) = N := ⟨_, rfl⟩
  obtain ⟨⟨G1, G2, G3⟩, hGe⟩ : ∃ G, nbn r 1 (a, b, c) = G := ⟨_, rfl⟩
  rw [hNe] at hmv hac
  rw [hGe] at hac
  have HGE := Lib.hid hGe
  simp only at hmv hac
  clear hi hNe hGe
  go_enter Try.func77, Try.ntmps77
  go_wp2_with fail
  refine region_mixed 4 (by kernel_rfl) (by kernel_rfl) (by kernel_rfl) ?_
  apply Exists.intro
  refine ⟨fun w0 hw0 => ?_, ?_⟩
  · obtain ⟨hC0, hF0⟩ := bcell hw0
    have hS0 := hw0.size
    (try simp at hS0)
    (try have hS0_w0 : w.heap.size < w0.heap.size := by omega)
    (try have hS0_w1 : w.heap.size + 1 < w0.heap.size := by omega)
    (try have hS0_w2 : w.heap.size + 1 + 1 < w0.heap.size := by omega)
    (try have hS0_w3 : w.heap.size + 1 + 1 + 1 < w0.heap.size := by omega)
    (try have hS0_w4 : w.heap.size + 1 + 1 + 1 + 1 < w0.heap.size := by omega)
    (try have hL0_w0 : w.heap.size ≤ w0.heap.size := by omega)
    (try have hL0_w1 : w.heap.size + 1 ≤ w0.heap.size := by omega)
    (try have hL0_w2 : w.heap.size + 1 + 1 ≤ w0.heap.size := by omega)
    (try have hL0_w3 : w.heap.size + 1 + 1 + 1 ≤ w0.heap.size := by omega)
    (try have hL0_w : w.heap.size ≤ w0.heap.size + 1 := by omega)
    (try have hM0_1 : w.heap.size < w0.heap.size + 1 := by omega)
    (try have hM0_2 : w.heap.size < w0.heap.size + 1 + 1 := by omega)
    (try have hM0_3 : w.heap.size < w0.heap.size + 1 + 1 + 1 := by omega)
    simp only [List.take_succ_cons, List.take_zero]
    repeat (first | go_big_quiet_skip | (go_big_quiet_want; go_big_quiet_op; first | go_big_quiet_on | (apply Exists.intro; refine ⟨fun _ => ?_, ?_⟩; (focus (first | (go_at_call 78; exact past_of (hmv.out _)) | (go_at_call 79; exact past_of (hac.out _)))); go_big_quiet_on)))
    refine wpQuiet_nil ?_
    rfl
  intro W hW hWz
  simp only [List.drop_succ_cons, List.drop_zero]
  refine eff_new #[.int .i64 0, .int .i64 0, .int .i64 0] 36 [.int .i64 G1, .int .i64 G2, .int .i64 G3] rfl rfl rfl rfl (fun _ => by simp [go_sem]) (cl_refl _) (fun wa wb hb => ?_) (fun w1 hV1 => ?_)
  · obtain ⟨hc, hf⟩ := bnew hb
    refine ⟨.skip, ?_, Or.inl rfl⟩
    simp [go_sem, setAll, Act.put, hc, hf]
  have hB1 := hW.trans (hV1.mono hW.size)
  obtain ⟨hC1, hF1⟩ := bcell hB1
  have hS1 := hB1.size
  (try simp at hS1)
  (try have hS1_w0 : w.heap.size < w1.heap.size := by omega)
  (try have hS1_w1 : w.heap.size + 1 < w1.heap.size := by omega)
  (try have hS1_w2 : w.heap.size + 1 + 1 < w1.heap.size := by omega)
  (try have hS1_w3 : w.heap.size + 1 + 1 + 1 < w1.heap.size := by omega)
  (try have hS1_w4 : w.heap.size + 1 + 1 + 1 + 1 < w1.heap.size := by omega)
  (try have hL1_w0 : w.heap.size ≤ w1.heap.size := by omega)
  (try have hL1_w1 : w.heap.size + 1 ≤ w1.heap.size := by omega)
  (try have hL1_w2 : w.heap.size + 1 + 1 ≤ w1.heap.size := by omega)
  (try have hL1_w3 : w.heap.size + 1 + 1 + 1 ≤ w1.heap.size := by omega)
  (try have hL1_w : w.heap.size ≤ w1.heap.size + 1 := by omega)
  (try have hM1_1 : w.heap.size < w1.heap.size + 1 := by omega)
  (try have hM1_2 : w.heap.size < w1.heap.size + 1 + 1 := by omega)
  (try have hM1_3 : w.heap.size < w1.heap.size + 1 + 1 + 1 := by omega)
  have hK : Cl W (w1.alloc (.cells #[.int .i64 G1, .int .i64 G2, .int .i64 G3] 36)) := (cl_of hV1).alloc _
  clear hK
  intro w2 hV2
  have hB2 := past_below hV2
  clear hV1 hV2 hW hWz
  obtain ⟨hC2, hF2⟩ := bcell hB2
  have hS2 := hB2.size
  (try simp at hS2)
  (try have hS2_w0 : w.heap.size < w2.heap.size := by omega)
  (try have hS2_w1 : w.heap.size + 1 < w2.heap.size := by omega)
  (try have hS2_w2 : w.heap.size + 1 + 1 < w2.heap.size := by omega)
  (try have hS2_w3 : w.heap.size + 1 + 1 + 1 < w2.heap.size := by omega)
  (try have hS2_w4 : w.heap.size + 1 + 1 + 1 + 1 < w2.heap.size := by omega)
  (try have hL2_w0 : w.heap.size ≤ w2.heap.size := by omega)
  (try have hL2_w1 : w.heap.size + 1 ≤ w2.heap.size := by omega)
  (try have hL2_w2 : w.heap.size + 1 + 1 ≤ w2.heap.size := by omega)
  (try have hL2_w3 : w.heap.size + 1 + 1 + 1 ≤ w2.heap.size := by omega)
  (try have hL2_w : w.heap.size ≤ w2.heap.size + 1 := by omega)
  (try have hM2_1 : w.heap.size < w2.heap.size + 1 := by omega)
  (try have hM2_2 : w.heap.size < w2.heap.size + 1 + 1 := by omega)
  (try have hM2_3 : w.heap.size < w2.heap.size + 1 + 1 + 1 := by omega)
  (try have hN2_1_00 : w1.heap.size < w2.heap.size := by omega)
  (try have hN2_1_01 : w1.heap.size < w2.heap.size + 1 := by omega)
  (try have hN2_1_02 : w1.heap.size < w2.heap.size + 1 + 1 := by omega)
  (try have hN2_1_10 : w1.heap.size + 1 < w2.heap.size := by omega)
  (try have hN2_1_11 : w1.heap.size + 1 < w2.heap.size + 1 := by omega)
  (try have hN2_1_12 : w1.heap.size + 1 < w2.heap.size + 1 + 1 := by omega)
  (try have hN2_1_20 : w1.heap.size + 1 + 1 < w2.heap.size := by omega)
  (try have hN2_1_21 : w1.heap.size + 1 + 1 < w2.heap.size + 1 := by omega)
  (try have hN2_1_22 : w1.heap.size + 1 + 1 < w2.heap.size + 1 + 1 := by omega)
  (try have hL2_1 : w1.heap.size ≤ w2.heap.size := by omega)
  (try have hS2_1 : w1.heap.size < w2.heap.size := by omega)
  (try have hS2_1' : w1.heap.size + 1 < w2.heap.size := by omega)
  simp only [Act.put, Act.eval, List.setIfInBounds_toArray, List.set_cons_zero, List.set_cons_succ]
  have hY : CB w w2 (.slice (some ⟨w.heap.size + 1, 0, none⟩) 1 1) w1.heap.size (a, b, c) (G1, G2, G3) [(a, b, c)] := by
    have h1f := ((((Blk.new w 36 #[.int .i64 a, .int .i64 b, .int .i64 c]).alloc _).below hB1).alloc _).below hB2
    have h1l := (((Rw.single (B := w.heap.size + 1) (w := w.alloc (.cells #[.int .i64 a, .int .i64 b, .int .i64 c] 36)) (a, b, c) (by simp)).later hB1).alloc (.cells #[.int .i64 G1, .int .i64 G2, .int .i64 G3] 36)).later hB2
    have h1b : Below w.heap.size w w1 := by repeat (first | with_reducible exact Below.refl _ _ | with_reducible assumption | ((with_reducible refine blA ?_ ?_); (focus (first | omega | (simp <;> omega)))) | (with_reducible refine blD ?_) | (with_reducible refine blN ?_) | ((with_reducible refine blS ?_ ?_); (focus (first | omega | (simp <;> omega)))) | ((with_reducible refine blT (by assumption) ?_ ?_); (focus (first | omega | (simp <;> omega)))))
    refine ⟨h1f, (Blk.new w1 _ _).below hB2, ?_, (h1b.alloc (by omega) _).trans (hB2.mono (by simp; omega)), by omega, ?_⟩
    · simpa using h1l
    · intro h hh
      simp [Value.ownBlock] at hh
      omega
  have HY := Lib.hid hY
  clear hB1 hB2 hC1 hC2 hF1 hF2 hY hS1 hS2 hS1_w0 hS1_w1 hL1_w0 hL1_w1 hL1_w2 hL1_w hM1_1 hM1_2 hM1_3 hS2_w0 hS2_w1 hS2_w2 hL2_w0 hL2_w1 hL2_w2 hL2_w3 hL2_w hM2_1 hM2_2 hM2_3
  obtain ⟨bb, hbb⟩ : ∃ bb, w1.heap.size = bb := ⟨_, rfl⟩
  rw [hbb] at HY
  go_wp2_with fail
  try rw [hbb]
  clear hbb
  go_loopw [3, 4] (fun v p wr => ∃ (k : Nat) (b1 : Nat) (g : Fm), p = .pointer (some ⟨b1, 0, none⟩) ∧ nbn r (k + 1) (a, b, c) = g ∧ Hid (CI r d n (a, b, c) k) ∧ Hid (CB w wr v b1 (a, b, c) g (cyc r (k + 1) (a, b, c)))) (fun v _ _ => n - (match v with | .slice _ l _ => l | _ => 0))
  case atStart =>
    exact ⟨0, bb, (G1, G2, G3), rfl, HGE.out, HI, HY⟩
  case round =>
    obtain ⟨k, b1, ⟨g1, g2, g3⟩, rfl, hge, hI, hR⟩ := hrel
    clear HY HGE HI
    have hlen := cyc_length r (k + 1) (a, b, c)
    have HLK := Lib.hid hI.out.lt
    have HN2 := Lib.hid hI.out.n2
    obtain ⟨va, vc, hv, hvc, _, _⟩ := hR.out.l.sees c3_len
    rw [hlen] at hv hvc
    subst hv
    have cf := hR.out.f.cell
    have cg := hR.out.g.cell
    have lf := hR.out.f.lt
    have lg := hR.out.g.lt
    have hbz := hR.out.bl.size
    simp only at cf cg
    by_cases hend : (g1, g2, g3) = (a, b, c)
    · have hkn : k + 1 = n := by
        have h1 := HLK.out
        rcases (show k + 1 < n ∨ k + 1 = n by omega) with h2 | h2
        · exact absurd (by rw [hge]; exact hend) (hI.out.first (k + 1) (by omega) h2)
        · exact h2
      have HKN := Lib.hid hkn
      simp only [Prod.mk.injEq] at hend
      obtain ⟨rfl, rfl, rfl⟩ := hend
      clear hkn hge hlen
      go_wp2_with fail
      go_ret
      exact ⟨⟨_, rfl, by rw [← HKN.out]; exact hR.out.l.mono (by omega)⟩, hR.out.bl⟩
    · have hlt : k + 1 < n := by
        have h1 := HLK.out
        rcases (show k + 1 < n ∨ k + 1 = n by omega) with h2 | h2
        · exact h2
        · exfalso
          apply hend
          rw [← hge, h2]
          exact hI.out.ret
      have HLT := Lib.hid hlt
      obtain ⟨c1, c2, c3'⟩ := hI.out.at_
      rw [hge] at c2 c3'
      have hmv1 := Lib.hid fun w0 => cyMove_any r d g1 g2 g3 w0 c2
      have hac1 := Lib.hid fun w0 => foActN_any r d g1 g2 g3 w0 c2
      rw [c3'] at hac1
      have HS : Hid (cyc r (k + 1 + 1) (a, b, c) = cyc r (k + 1) (a, b, c) ++ [(g1, g2, g3)]) := Lib.hid (by rw [cyc_succ, hge])
      obtain ⟨⟨P1, P2, P3, P4⟩, hPe⟩ : ∃ N, nmg r (g1, g2, g3) = N := ⟨_, rfl⟩
      obtain ⟨⟨X1, X2, X3⟩, hXe⟩ : ∃ G, nbn r (k + 1 + 1) (a, b, c) = G := ⟨_, rfl⟩
      rw [hPe] at hmv1 hac1
      rw [hXe] at hac1
      have HXE := Lib.hid hXe
      simp only at hmv1 hac1
      have HEND := Lib.hid hend
      have hne : g1 = a → g2 = b → ¬ g3 = c := fun h1 h2 h3 => HEND.out (by rw [h1, h2, h3])
      have hlen6 : (cyc r (k + 1) (a, b, c)).length ≤ 1000000 := by rw [hlen]; have := HN2.out; omega
      clear c1 c2 c3' hPe hXe hge hend hlt hlen
      have split3 : ¬ g1 = a ∨ (g1 = a ∧ ¬ g2 = b) ∨ (g1 = a ∧ g2 = b ∧ ¬ g3 = c) := by
        by_cases e1 : g1 = a
        · by_cases e2 : g2 = b
          · exact .inr (.inr ⟨e1, e2, hne e1 e2⟩)
          · exact .inr (.inl ⟨e1, e2⟩)
        · exact .inl e1
      have HBZ := Lib.hid hbz
      clear hne
      rcases split3 with e1 | ⟨e1, e2⟩ | ⟨e1, e2, e3⟩
      · go_wp2_with (at_builtin; go_loud (refine app_formI (hR.out.l.alloc _) (by rfl) _ _ _ (by rfl) (by kernel_rfl) (by rfl) _ (_, _, _) (by rfl) (heap_alloc_new _ _) hlen6 (by simp; omega) ?_))
        intro v3 x3 hr3 hg3 hat3
        rw [← HS.out] at hr3
        have hz3 := hg3.size
        simp at hz3
        have hf3 := (hR.out.f.alloc _).grown hg3 (fun e => by have := (hR.out.l.lt _ e.symm).1; omega)
        have hg3' := (hR.out.g.alloc _).grown hg3 (fun e => by have := hR.out.a _ e.symm; omega)
        have hb3 : Below w.heap.size w x3 := below_of_grown (hR.out.bl.alloc HBZ.out _) hg3 (by simp; omega) (fun g hg => by have := (hR.out.l.lt g hg).1; omega)
        have hbz3 := hb3.size
        obtain ⟨va3, vc3, hv3, _, _, _⟩ := hr3.sees c3_len
        rw [cyc_length] at hv3
        subst hv3
        have hl3 := fun h hh => (hr3.lt h hh).2
        have cg3 := hg3'.cell
        have cf3 := hf3.cell
        have lg3 := hg3'.lt
        have lf3 := hf3.lt
        simp only at cg3 cf3
        have HF3 := Lib.hid hf3
        have HB3 := Lib.hid hb3
        have HR3 := Lib.hid hr3
        have HL3 := Lib.hid hl3
        clear hg3 hat3 hR cf cg lf lg hr3 hf3 hg3' hb3 hl3 hlen6
        obtain ⟨y3, ey3, hyf, hyg, hyl, hyb, hyz⟩ : ∃ y3, x3.alloc (.cells #[.int .i64 g1, .int .i64 g2, .int .i64 g3] 36) = y3 ∧ Blk w.heap.size 36 #[.int .i64 a, .int .i64 b, .int .i64 c] y3 ∧ Blk x3.heap.size 36 #[.int .i64 g1, .int .i64 g2, .int .i64 g3] y3 ∧ Rw (w.heap.size + 1) 36 3 c3 y3 (.slice va3 (k + 1 + 1) vc3) (cyc r (k + 1 + 1) (a, b, c)) ∧ Below w.heap.size w y3 ∧ y3.heap.size = x3.heap.size + 1 := by
          exact ⟨_, rfl, HF3.out.alloc _, Blk.new x3 _ _, HR3.out.alloc _, HB3.out.alloc hbz3 _, by simp⟩
        have HYZ := Lib.hid hyz
        have cyg3 := hyg.cell
        have lyg3 := hyg.lt
        clear hyz
        go_wp2_with fail
        try rw [ey3]
        refine wp_region_past_tail 4 (by kernel_rfl) (by kernel_rfl) ?_
        simp only [List.take_succ_cons, List.take_zero, List.drop_succ_cons, List.drop_zero]
        repeat (first | go_big_quiet_skip | (go_big_quiet_want; go_big_quiet_op; first | go_big_quiet_on | (apply Exists.intro; refine ⟨fun _ => ?_, ?_⟩; (focus (first | (go_at_call 78; exact past_of (hmv1.out _)) | (go_at_call 79; exact past_of (hac1.out _)))); go_big_quiet_on)))
        refine wpQuiet_nil ?_
        intro w3 hw'
        have hB3 := past_below hw'
        clear hw'
        obtain ⟨hC3, hF3⟩ := bcell hB3
        have hS3 := hB3.size
        (try simp at hS3)
        (try have hS3_w0 : w.heap.size < w3.heap.size := by omega)
        (try have hS3_w1 : w.heap.size + 1 < w3.heap.size := by omega)
        (try have hS3_w2 : w.heap.size + 1 + 1 < w3.heap.size := by omega)
        (try have hS3_w3 : w.heap.size + 1 + 1 + 1 < w3.heap.size := by omega)
        (try have hS3_w4 : w.heap.size + 1 + 1 + 1 + 1 < w3.heap.size := by omega)
        (try have hS3_1 : w1.heap.size < w3.heap.size := by omega)
        (try have hS3_2 : w2.heap.size < w3.heap.size := by omega)
        (try have hS3_1' : w1.heap.size + 1 < w3.heap.size := by omega)
        (try have hS3_2' : w2.heap.size + 1 < w3.heap.size := by omega)
        obtain ⟨x4, hx4⟩ : ∃ x, w3 = x := ⟨_, rfl⟩
        have hB4 := hB3
        rw [hx4] at hB4 ⊢
        have hf4 := hyf.below hB4
        have hg4 := hyg.below hB4
        have hl4 := hyl.later hB4
        have hb4 : Below w.heap.size w x4 := hyb.trans (hB4.mono hyb.size)
        have hz4 := hB4.size
        rw [HYZ.out] at hz4
        clear cyg3 lyg3 HYZ hyf hyg hyl hyb hB4 ey3 cg3 cf3
        have cg4 := hg4.cell
        have fg4 := hg4.froz
        obtain ⟨x5, e5, k5, z5, g5⟩ := hg4.set3 (.int .i64 X1) (.int .i64 X2) (.int .i64 X3)
        have hR5 : CB w x5 (.slice va3 (k + 1 + 1) vc3) x3.heap.size (a, b, c) (X1, X2, X3) (cyc r (k + 1 + 1) (a, b, c)) :=
          ⟨hf4.grown g5 (by simp <;> omega), k5, hl4.apart g5 (by right; intro e; have := HL3.out _ e; omega), below_grown hb4 g5 (by omega) (by have := hb4.size; omega), by omega, HL3.out⟩
        have HR5 := Lib.hid hR5
        clear hf4 hl4 hb4 hz4 hR5 k5 hg4
        go_wp2_with fail
        go_roundw
        case rel =>
          go_light
          exact ⟨k + 1, x3.heap.size, (X1, X2, X3), rfl, HXE.out, Lib.hid ⟨hI.out.cy, hI.out.gd, by have := HLT.out; omega, hI.out.n2, hI.out.ret, hI.out.first⟩, HR5⟩
        case measure =>
          have := HLT.out
          simp
          omega
      · subst e1
        go_wp2_with (at_builtin; go_loud (refine app_formI (hR.out.l.alloc _) (by rfl) _ _ _ (by rfl) (by kernel_rfl) (by rfl) _ (_, _, _) (by rfl) (heap_alloc_new _ _) hlen6 (by simp; omega) ?_))
        intro v3 x3 hr3 hg3 hat3
        rw [← HS.out] at hr3
        have hz3 := hg3.size
        simp at hz3
        have hf3 := (hR.out.f.alloc _).grown hg3 (fun e => by have := (hR.out.l.lt _ e.symm).1; omega)
        have hg3' := (hR.out.g.alloc _).grown hg3 (fun e => by have := hR.out.a _ e.symm; omega)
        have hb3 : Below w.heap.size w x3 := below_of_grown (hR.out.bl.alloc HBZ.out _) hg3 (by simp; omega) (fun g hg => by have := (hR.out.l.lt g hg).1; omega)
        have hbz3 := hb3.size
        obtain ⟨va3, vc3, hv3, _, _, _⟩ := hr3.sees c3_len
        rw [cyc_length] at hv3
        subst hv3
        have hl3 := fun h hh => (hr3.lt h hh).2
        have cg3 := hg3'.cell
        have cf3 := hf3.cell
        have lg3 := hg3'.lt
        have lf3 := hf3.lt
        simp only at cg3 cf3
        have HF3 := Lib.hid hf3
        have HB3 := Lib.hid hb3
        have HR3 := Lib.hid hr3
        have HL3 := Lib.hid hl3
        clear hg3 hat3 hR cf cg lf lg hr3 hf3 hg3' hb3 hl3 hlen6
        obtain ⟨y3, ey3, hyf, hyg, hyl, hyb, hyz⟩ : ∃ y3, x3.alloc (.cells #[.int .i64 g1, .int .i64 g2, .int .i64 g3] 36) = y3 ∧ Blk w.heap.size 36 #[.int .i64 g1, .int .i64 b, .int .i64 c] y3 ∧ Blk x3.heap.size 36 #[.int .i64 g1, .int .i64 g2, .int .i64 g3] y3 ∧ Rw (w.heap.size + 1) 36 3 c3 y3 (.slice va3 (k + 1 + 1) vc3) (cyc r (k + 1 + 1) (g1, b, c)) ∧ Below w.heap.size w y3 ∧ y3.heap.size = x3.heap.size + 1 := by
          exact ⟨_, rfl, HF3.out.alloc _, Blk.new x3 _ _, HR3.out.alloc _, HB3.out.alloc hbz3 _, by simp⟩
        have HYZ := Lib.hid hyz
        have cyg3 := hyg.cell
        have lyg3 := hyg.lt
        clear hyz
        go_wp2_with fail
        try rw [ey3]
        refine wp_region_past_tail 4 (by kernel_rfl) (by kernel_rfl) ?_
        simp only [List.take_succ_cons, List.take_zero, List.drop_succ_cons, List.drop_zero]
        repeat (first | go_big_quiet_skip | (go_big_quiet_want; go_big_quiet_op; first | go_big_quiet_on | (apply Exists.intro; refine ⟨fun _ => ?_, ?_⟩; (focus (first | (go_at_call 78; exact past_of (hmv1.out _)) | (go_at_call 79; exact past_of (hac1.out _)))); go_big_quiet_on)))
        refine wpQuiet_nil ?_
        intro w4 hw'
        have hB4 := past_below hw'
        clear hw'
        obtain ⟨hC4, hF4⟩ := bcell hB4
        have hS4 := hB4.size
        (try simp at hS4)
        (try have hS4_w0 : w.heap.size < w4.heap.size := by omega)
        (try have hS4_w1 : w.heap.size + 1 < w4.heap.size := by omega)
        (try have hS4_w2 : w.heap.size + 1 + 1 < w4.heap.size := by omega)
        (try have hS4_w3 : w.heap.size + 1 + 1 + 1 < w4.heap.size := by omega)
        (try have hS4_w4 : w.heap.size + 1 + 1 + 1 + 1 < w4.heap.size := by omega)
        (try have hS4_1 : w1.heap.size < w4.heap.size := by omega)
        (try have hS4_2 : w2.heap.size < w4.heap.size := by omega)
        (try have hS4_3 : w3.heap.size < w4.heap.size := by omega)
        (try have hS4_1' : w1.heap.size + 1 < w4.heap.size := by omega)
        (try have hS4_2' : w2.heap.size + 1 < w4.heap.size := by omega)
        (try have hS4_3' : w3.heap.size + 1 < w4.heap.size := by omega)
        obtain ⟨x4, hx4⟩ : ∃ x, w4 = x := ⟨_, rfl⟩
        have hB4 := hB4
        rw [hx4] at hB4 ⊢
        have hf4 := hyf.below hB4
        have hg4 := hyg.below hB4
        have hl4 := hyl.later hB4
        have hb4 : Below w.heap.size w x4 := hyb.trans (hB4.mono hyb.size)
        have hz4 := hB4.size
        rw [HYZ.out] at hz4
        clear cyg3 lyg3 HYZ hyf hyg hyl hyb hB4 ey3 cg3 cf3
        have cg4 := hg4.cell
        have fg4 := hg4.froz
        obtain ⟨x5, e5, k5, z5, g5⟩ := hg4.set3 (.int .i64 X1) (.int .i64 X2) (.int .i64 X3)
        have hR5 : CB w x5 (.slice va3 (k + 1 + 1) vc3) x3.heap.size (g1, b, c) (X1, X2, X3) (cyc r (k + 1 + 1) (g1, b, c)) :=
          ⟨hf4.grown g5 (by simp <;> omega), k5, hl4.apart g5 (by right; intro e; have := HL3.out _ e; omega), below_grown hb4 g5 (by omega) (by have := hb4.size; omega), by omega, HL3.out⟩
        have HR5 := Lib.hid hR5
        clear hf4 hl4 hb4 hz4 hR5 k5 hg4
        go_wp2_with fail
        go_roundw
        case rel =>
          go_light
          exact ⟨k + 1, x3.heap.size, (X1, X2, X3), rfl, HXE.out, Lib.hid ⟨hI.out.cy, hI.out.gd, by have := HLT.out; omega, hI.out.n2, hI.out.ret, hI.out.first⟩, HR5⟩
        case measure =>
          have := HLT.out
          simp
          omega
      · subst e1
        subst e2
        go_wp2_with (at_builtin; go_loud (refine app_formI (hR.out.l.alloc _) (by rfl) _ _ _ (by rfl) (by kernel_rfl) (by rfl) _ (_, _, _) (by rfl) (heap_alloc_new _ _) hlen6 (by simp; omega) ?_))
        intro v3 x3 hr3 hg3 hat3
        rw [← HS.out] at hr3
        have hz3 := hg3.size
        simp at hz3
        have hf3 := (hR.out.f.alloc _).grown hg3 (fun e => by have := (hR.out.l.lt _ e.symm).1; omega)
        have hg3' := (hR.out.g.alloc _).grown hg3 (fun e => by have := hR.out.a _ e.symm; omega)
        have hb3 : Below w.heap.size w x3 := below_of_grown (hR.out.bl.alloc HBZ.out _) hg3 (by simp; omega) (fun g hg => by have := (hR.out.l.lt g hg).1; omega)
        have hbz3 := hb3.size
        obtain ⟨va3, vc3, hv3, _, _, _⟩ := hr3.sees c3_len
        rw [cyc_length] at hv3
        subst hv3
        have hl3 := fun h hh => (hr3.lt h hh).2
        have cg3 := hg3'.cell
        have cf3 := hf3.cell
        have lg3 := hg3'.lt
        have lf3 := hf3.lt
        simp only at cg3 cf3
        have HF3 := Lib.hid hf3
        have HB3 := Lib.hid hb3
        have HR3 := Lib.hid hr3
        have HL3 := Lib.hid hl3
        clear hg3 hat3 hR cf cg lf lg hr3 hf3 hg3' hb3 hl3 hlen6
        obtain ⟨y3, ey3, hyf, hyg, hyl, hyb, hyz⟩ : ∃ y3, x3.alloc (.cells #[.int .i64 g1, .int .i64 g2, .int .i64 g3] 36) = y3 ∧ Blk w.heap.size 36 #[.int .i64 g1, .int .i64 g2, .int .i64 c] y3 ∧ Blk x3.heap.size 36 #[.int .i64 g1, .int .i64 g2, .int .i64 g3] y3 ∧ Rw (w.heap.size + 1) 36 3 c3 y3 (.slice va3 (k + 1 + 1) vc3) (cyc r (k + 1 + 1) (g1, g2, c)) ∧ Below w.heap.size w y3 ∧ y3.heap.size = x3.heap.size + 1 := by
          exact ⟨_, rfl, HF3.out.alloc _, Blk.new x3 _ _, HR3.out.alloc _, HB3.out.alloc hbz3 _, by simp⟩
        have HYZ := Lib.hid hyz
        have cyg3 := hyg.cell
        have lyg3 := hyg.lt
        clear hyz
        go_wp2_with fail
        try rw [ey3]
        refine wp_region_past_tail 4 (by kernel_rfl) (by kernel_rfl) ?_
        simp only [List.take_succ_cons, List.take_zero, List.drop_succ_cons, List.drop_zero]
        repeat (first | go_big_quiet_skip | (go_big_quiet_want; go_big_quiet_op; first | go_big_quiet_on | (apply Exists.intro; refine ⟨fun _ => ?_, ?_⟩; (focus (first | (go_at_call 78; exact past_of (hmv1.out _)) | (go_at_call 79; exact past_of (hac1.out _)))); go_big_quiet_on)))
        refine wpQuiet_nil ?_
        intro w5 hw'
        have hB5 := past_below hw'
        clear hw'
        obtain ⟨hC5, hF5⟩ := bcell hB5
        have hS5 := hB5.size
        (try simp at hS5)
        (try have hS5_w0 : w.heap.size < w5.heap.size := by omega)
        (try have hS5_w1 : w.heap.size + 1 < w5.heap.size := by omega)
        (try have hS5_w2 : w.heap.size + 1 + 1 < w5.heap.size := by omega)
        (try have hS5_w3 : w.heap.size + 1 + 1 + 1 < w5.heap.size := by omega)
        (try have hS5_w4 : w.heap.size + 1 + 1 + 1 + 1 < w5.heap.size := by omega)
        (try have hS5_1 : w1.heap.size < w5.heap.size := by omega)
        (try have hS5_2 : w2.heap.size < w5.heap.size := by omega)
        (try have hS5_3 : w3.heap.size < w5.heap.size := by omega)
        (try have hS5_4 : w4.heap.size < w5.heap.size := by omega)
        (try have hS5_1' : w1.heap.size + 1 < w5.heap.size := by omega)
        (try have hS5_2' : w2.heap.size + 1 < w5.heap.size := by omega)
        (try have hS5_3' : w3.heap.size + 1 < w5.heap.size := by omega)
        (try have hS5_4' : w4.heap.size + 1 < w5.heap.size := by omega)
        obtain ⟨x4, hx4⟩ : ∃ x, w5 = x := ⟨_, rfl⟩
        have hB4 := hB5
        rw [hx4] at hB4 ⊢
        have hf4 := hyf.below hB4
        have hg4 := hyg.below hB4
        have hl4 := hyl.later hB4
        have hb4 : Below w.heap.size w x4 := hyb.trans (hB4.mono hyb.size)
        have hz4 := hB4.size
        rw [HYZ.out] at hz4
        clear cyg3 lyg3 HYZ hyf hyg hyl hyb hB4 ey3 cg3 cf3
        have cg4 := hg4.cell
        have fg4 := hg4.froz
        obtain ⟨x5, e5, k5, z5, g5⟩ := hg4.set3 (.int .i64 X1) (.int .i64 X2) (.int .i64 X3)
        have hR5 : CB w x5 (.slice va3 (k + 1 + 1) vc3) x3.heap.size (g1, g2, c) (X1, X2, X3) (cyc r (k + 1 + 1) (g1, g2, c)) :=
          ⟨hf4.grown g5 (by simp <;> omega), k5, hl4.apart g5 (by right; intro e; have := HL3.out _ e; omega), below_grown hb4 g5 (by omega) (by have := hb4.size; omega), by omega, HL3.out⟩
        have HR5 := Lib.hid hR5
        clear hf4 hl4 hb4 hz4 hR5 k5 hg4
        go_wp2_with fail
        go_roundw
        case rel =>
          go_light
          exact ⟨k + 1, x3.heap.size, (X1, X2, X3), rfl, HXE.out, Lib.hid ⟨hI.out.cy, hI.out.gd, by have := HLT.out; omega, hI.out.n2, hI.out.ret, hI.out.first⟩, HR5⟩
        case measure =>
          have := HLT.out
          simp
          omega
end Go.Proofs.Ytemnkfigjpphgaa
