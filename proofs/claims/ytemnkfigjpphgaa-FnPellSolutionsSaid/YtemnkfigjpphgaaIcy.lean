/-
  The cycle of a form, walked in the program.
-/
import Derived.Test.YtemnkfigjpphgaaIry
namespace Go.Proofs.Ytemnkfigjpphgaa
open Go.RowKit
attribute [local simp, local go_sem] past_cell past_frozen past_tape
/-- The blocks of the cycle's loop: the form it began with, the form it stands at (block b), the list. -/
structure CB (w wr : World) (v : Value) (b : Nat) (f g : Fm) (l : List Fm) : Prop where
  f : Blk w.heap.size 36 #[.int .i64 f.1, .int .i64 f.2.1, .int .i64 f.2.2] wr
  g : Blk b 36 #[.int .i64 g.1, .int .i64 g.2.1, .int .i64 g.2.2] wr
  l : Rw (w.heap.size + 1) 36 3 c3 wr v l
  bl : Below w.heap.size w wr
  n : w.heap.size < b
  a : ∀ h, v.ownBlock = some h → h < b
theorem CB.below {w wr w' : World} {v : Value} {b : Nat} {f g : Fm} {l : List Fm} (h : CB w wr v b f g l) (hb : Below wr.heap.size wr w') : CB w w' v b f g l :=
  ⟨h.f.below hb, h.g.below hb, h.l.later hb, h.bl.trans (hb.mono h.bl.size), h.n, h.a⟩
theorem CB.alloc {w wr : World} {v : Value} {b : Nat} {f g : Fm} {l : List Fm} (h : CB w wr v b f g l) (o : Obj) : CB w (wr.alloc o) v b f g l :=
  ⟨h.f.alloc o, h.g.alloc o, h.l.alloc o, h.bl.alloc (by have := h.bl.size; omega) _, h.n, h.a⟩
/-- How far the loop has come. -/
structure CI (r d : Int) (n : Nat) (f : Fm) (k : Nat) : Prop where
  cy : Cy r f
  gd : Gd r d f
  lt : k + 1 ≤ n
  n2 : n ≤ 2100
  ret : nbn r n f = f
  first : ∀ k, 0 < k → k < n → nbn r k f ≠ f
theorem CI.at_ {r d : Int} {n : Nat} {f : Fm} {k : Nat} (h : CI r d n f k) : Cy r (nbn r (k + 1) f) ∧ Gd r d (nbn r (k + 1) f) ∧ nbg r (nbn r (k + 1) f) = nbn r (k + 1 + 1) f := by
  obtain ⟨c1, c2⟩ := h.cy.nth (k + 1) h.gd.root
  have hd : fdisc (nbn r (k + 1) f) = d := by rw [nbn_disc]; exact h.gd.ds
  have hgd : Gd r d (nbn r (k + 1) f) := by
    have : ∀ j, Gd r d (nbn r j f) := by
      intro j
      induction j with
      | zero => exact h.gd
      | succ j ih =>
        rw [nbn_succ]
        obtain ⟨e1, e2⟩ := h.cy.nth j h.gd.root
        rw [← (e1.nbg e2).1]
        exact ih.next.1
    exact this (k + 1)
  refine ⟨c1, hgd, ?_⟩
  rw [nbn_succ r (k + 1) f, (c1.nbg c2).1]
theorem nbn_gd {r d : Int} {f : Fm} (hc : Cy r f) (h : Gd r d f) : ∀ j, Gd r d (nbn r j f)
  | 0 => h
  | j + 1 => by
    rw [nbn_succ]
    obtain ⟨e1, e2⟩ := hc.nth j h.root
    rw [← (e1.nbg e2).1]
    exact (nbn_gd hc h j).next.1
set_option maxRecDepth 100000 in
set_option maxHeartbeats 8000000 in
theorem cycle_any (r d : Int) (n : Nat) (a b c : Int) (w : World) (hi : CI r d n (a, b, c) 0) :
    Calls Try.prog 67 #[.agg #[.int .i64 a, .int .i64 b, .int .i64 c]] w fun e w' => (∃ v, e = .returned v ∧ Rw w.heap.size 36 3 c3 w' v (cyc r n (a, b, c))) ∧ Below w.heap.size w w' := by
  have HI := Lib.hid hi
  have hnb := Lib.hid fun w0 => neighbour_any r d a b c w0 hi.gd
  have hN1 : Hid (nbg r (a, b, c) = nbn r 1 (a, b, c)) := Lib.hid (hi.cy.nbg hi.gd.root).1
  rw [hN1.out] at hnb
  obtain ⟨⟨N1, N2, N3, N4⟩, hNe⟩ : ∃ N, nmg r (a, b, c) = N := ⟨_, rfl⟩
  obtain ⟨⟨G1, G2, G3⟩, hGe⟩ : ∃ G, nbn r 1 (a, b, c) = G := ⟨_, rfl⟩
  rw [hNe, hGe] at hnb
  have HGE := Lib.hid hGe
  simp only at hnb
  clear hi hNe hGe
  go_enter Try.func67, Try.ntmps67
  go_wp2_with fail
  refine (hnb.out _).mono ?_
  rintro e1 w1 ⟨rfl, hB1⟩
  have h1f := ((Blk.new w 36 #[.int .i64 a, .int .i64 b, .int .i64 c]).alloc _).below hB1
  have h1l := (Rw.single (B := w.heap.size + 1) (w := w.alloc (.cells #[.int .i64 a, .int .i64 b, .int .i64 c] 36)) (a, b, c) (by simp)).later hB1
  have h1b : Below w.heap.size w w1 := by repeat (first | with_reducible exact Below.refl _ _ | with_reducible assumption | ((with_reducible refine blA ?_ ?_); (focus (first | omega | (simp <;> omega)))) | (with_reducible refine blD ?_) | (with_reducible refine blN ?_) | ((with_reducible refine blS ?_ ?_); (focus (first | omega | (simp <;> omega)))) | ((with_reducible refine blT (by assumption) ?_ ?_); (focus (first | omega | (simp <;> omega)))))
  have hz1 := hB1.size
  simp at hz1
  obtain ⟨y, ey, hy, hym⟩ : ∃ y, (w1.alloc (.cells #[.int .i64 G1, .int .i64 G2, .int .i64 G3] 36)).alloc (.cells #[.int .i64 N1, .int .i64 N2, .int .i64 N3, .int .i64 N4] 40) = y ∧ CB w y (.slice (some ⟨w.heap.size + 1, 0, none⟩) 1 1) w1.heap.size (a, b, c) (G1, G2, G3) [(a, b, c)] ∧ Blk (w1.heap.size + 1) 40 #[.int .i64 N1, .int .i64 N2, .int .i64 N3, .int .i64 N4] y := by
    refine ⟨_, rfl, ⟨(h1f.alloc _).alloc _, (Blk.new w1 _ _).alloc _, ?_, (h1b.alloc (by omega) _).alloc (by simp; omega) _, by omega, ?_⟩, ?_⟩
    · have := (h1l.alloc (.cells #[.int .i64 G1, .int .i64 G2, .int .i64 G3] 36)).alloc (.cells #[.int .i64 N1, .int .i64 N2, .int .i64 N3, .int .i64 N4] 40)
      simpa using this
    · intro h hh
      simp [Value.ownBlock] at hh
      omega
    · have := Blk.new (w1.alloc (.cells #[.int .i64 G1, .int .i64 G2, .int .i64 G3] 36)) 40 #[.int .i64 N1, .int .i64 N2, .int .i64 N3, .int .i64 N4]
      simpa using this
  have HY := Lib.hid hy
  have HYM := Lib.hid hym
  clear h1f h1l h1b hB1 hz1 hy hym
  obtain ⟨bb, hbb⟩ : ∃ bb, w1.heap.size = bb := ⟨_, rfl⟩
  rw [hbb] at HY HYM
  go_wp2_with fail
  try rw [ey]
  try rw [hbb]
  clear ey hbb
  go_loopw [3, 4, 5] (fun v p q wr => ∃ (k : Nat) (b1 b2 : Nat) (g : Fm), p = .pointer (some ⟨b1, 0, none⟩) ∧ q = .pointer (some ⟨b2, 0, none⟩) ∧ nbn r (k + 1) (a, b, c) = g ∧ Hid (CI r d n (a, b, c) k) ∧ Hid (CB w wr v b1 (a, b, c) g (cyc r (k + 1) (a, b, c))) ∧ Hid (Blk b2 40 #[.int .i64 N1, .int .i64 N2, .int .i64 N3, .int .i64 N4] wr) ∧ Hid (∀ h, v.ownBlock = some h → h < b2)) (fun v _ _ _ => n - (match v with | .slice _ l _ => l | _ => 0))
  case atStart =>
    refine ⟨0, bb, bb + 1, (G1, G2, G3), rfl, rfl, HGE.out, HI, HY, HYM, Lib.hid fun h hh => ?_⟩
    have := HY.out.a h hh
    omega
  case round =>
    obtain ⟨k, b1, b2, ⟨g1, g2, g3⟩, rfl, rfl, hge, hI, hR, hM, hA⟩ := hrel
    clear HY HYM HGE HI
    have hlen := cyc_length r (k + 1) (a, b, c)
    have HLK := Lib.hid hI.out.lt
    have HN2 := Lib.hid hI.out.n2
    obtain ⟨va, vc, hv, hvc, _, _⟩ := hR.out.l.sees c3_len
    rw [hlen] at hv hvc
    subst hv
    have cf := hR.out.f.cell
    have cg := hR.out.g.cell
    have lf := hR.out.f.lt
    have lg := hR.out.g.lt
    have lm := hM.out.lt
    have hbz := hR.out.bl.size
    simp only at cf cg
    by_cases hend : (g1, g2, g3) = (a, b, c)
    · have hkn : k + 1 = n := by
        have h1 := HLK.out
        rcases (show k + 1 < n ∨ k + 1 = n by omega) with h2 | h2
        · exact absurd (by rw [hge]; exact hend) (hI.out.first (k + 1) (by omega) h2)
        · exact h2
      have HKN := Lib.hid hkn
      simp only [Prod.mk.injEq] at hend
      obtain ⟨rfl, rfl, rfl⟩ := hend
      clear hkn hge hlen
      go_wp2_with fail
      go_ret
      exact ⟨⟨_, rfl, by rw [← HKN.out]; exact hR.out.l.mono (by omega)⟩, hR.out.bl⟩
    · have hlt : k + 1 < n := by
        have h1 := HLK.out
        rcases (show k + 1 < n ∨ k + 1 = n by omega) with h2 | h2
        · exact h2
        · exfalso
          apply hend
          rw [← hge, h2]
          exact hI.out.ret
      have HLT := Lib.hid hlt
      obtain ⟨c1, c2, c3'⟩ := hI.out.at_
      rw [hge] at c2 c3'
      have hnb1 := Lib.hid fun w0 => neighbour_any r d g1 g2 g3 w0 c2
      rw [c3'] at hnb1
      have HS : Hid (cyc r (k + 1 + 1) (a, b, c) = cyc r (k + 1) (a, b, c) ++ [(g1, g2, g3)]) := Lib.hid (by rw [cyc_succ, hge])
      obtain ⟨⟨P1, P2, P3, P4⟩, hPe⟩ : ∃ N, nmg r (g1, g2, g3) = N := ⟨_, rfl⟩
      obtain ⟨⟨X1, X2, X3⟩, hXe⟩ : ∃ G, nbn r (k + 1 + 1) (a, b, c) = G := ⟨_, rfl⟩
      rw [hPe, hXe] at hnb1
      have HXE := Lib.hid hXe
      simp only at hnb1
      have HEND := Lib.hid hend
      have hne : g1 = a → g2 = b → ¬ g3 = c := fun h1 h2 h3 => HEND.out (by rw [h1, h2, h3])
      have cm := hM.out.cell
      have hlen6 : (cyc r (k + 1) (a, b, c)).length ≤ 1000000 := by rw [hlen]; have := HN2.out; omega
      clear c1 c2 c3' hPe hXe hge hend hlt hlen
      have split3 : ¬ g1 = a ∨ (g1 = a ∧ ¬ g2 = b) ∨ (g1 = a ∧ g2 = b ∧ ¬ g3 = c) := by
        by_cases e1 : g1 = a
        · by_cases e2 : g2 = b
          · exact .inr (.inr ⟨e1, e2, hne e1 e2⟩)
          · exact .inr (.inl ⟨e1, e2⟩)
        · exact .inl e1
      have HBZ := Lib.hid hbz
      clear hne
      rcases split3 with e1 | ⟨e1, e2⟩ | ⟨e1, e2, e3⟩
      · go_wp2_with (at_builtin; go_loud (refine app_formI (hR.out.l.alloc _) (by rfl) _ _ _ (by rfl) (by kernel_rfl) (by rfl) _ (_, _, _) (by rfl) (heap_alloc_new _ _) hlen6 (by simp; omega) ?_))
        intro v3 w3 hr3 hg3 hat3
        rw [← HS.out] at hr3
        have hz3 := hg3.size
        simp at hz3
        have hf3 := (hR.out.f.alloc _).grown hg3 (fun e => by have := (hR.out.l.lt _ e.symm).1; omega)
        have hg3' := (hR.out.g.alloc _).grown hg3 (fun e => by have := hR.out.a _ e.symm; omega)
        have hm3 := (hM.out.alloc _).grown hg3 (fun e => by have := hA.out _ e.symm; omega)
        have hb3 : Below w.heap.size w w3 := below_of_grown (hR.out.bl.alloc HBZ.out _) hg3 (by simp; omega) (fun g hg => by have := (hR.out.l.lt g hg).1; omega)
        have hbz3 := hb3.size
        obtain ⟨va3, vc3, hv3, _, _, _⟩ := hr3.sees c3_len
        rw [cyc_length] at hv3
        subst hv3
        have hl3 := fun h hh => (hr3.lt h hh).2
        have cg3 := hg3'.cell
        have cm3 := hm3.cell
        have cf3 := hf3.cell
        have lg3 := hg3'.lt
        have lm3 := hm3.lt
        have lf3 := hf3.lt
        simp only at cg3 cf3
        have HF3 := Lib.hid hf3
        have HB3 := Lib.hid hb3
        have HR3 := Lib.hid hr3
        have HL3 := Lib.hid hl3
        clear hg3 hat3 hR hM hA cf cg cm lf lg lm hr3 hf3 hg3' hm3 hb3 hl3 hlen6
        obtain ⟨y3, ey3, hyf, hyg, hym, hyl, hyb, hyz⟩ : ∃ y3, (w3.alloc (.cells #[.int .i64 g1, .int .i64 g2, .int .i64 g3] 36)).alloc (.cells #[.int .i64 N1, .int .i64 N2, .int .i64 N3, .int .i64 N4] 40) = y3 ∧ Blk w.heap.size 36 #[.int .i64 a, .int .i64 b, .int .i64 c] y3 ∧ Blk w3.heap.size 36 #[.int .i64 g1, .int .i64 g2, .int .i64 g3] y3 ∧ Blk (w3.heap.size + 1) 40 #[.int .i64 N1, .int .i64 N2, .int .i64 N3, .int .i64 N4] y3 ∧ Rw (w.heap.size + 1) 36 3 c3 y3 (.slice va3 (k + 1 + 1) vc3) (cyc r (k + 1 + 1) (a, b, c)) ∧ Below w.heap.size w y3 ∧ y3.heap.size = w3.heap.size + 1 + 1 := by
          refine ⟨_, rfl, (HF3.out.alloc _).alloc _, (Blk.new w3 _ _).alloc _, ?_, (HR3.out.alloc _).alloc _, (HB3.out.alloc hbz3 _).alloc (by simp; omega) _, by simp⟩
          have := Blk.new (w3.alloc (.cells #[.int .i64 g1, .int .i64 g2, .int .i64 g3] 36)) 40 #[.int .i64 N1, .int .i64 N2, .int .i64 N3, .int .i64 N4]
          simpa using this
        have HYZ := Lib.hid hyz
        have cyg3 := hyg.cell
        have lyg3 := hyg.lt
        clear hyz
        go_wp2_with fail
        try rw [ey3]
        refine (hnb1.out _).mono ?_
        rintro e4 w4 ⟨rfl, hB4⟩
        have hf4 := hyf.below hB4
        have hg4 := hyg.below hB4
        have hm4 := hym.below hB4
        have hl4 := hyl.later hB4
        have hb4 : Below w.heap.size w w4 := hyb.trans (hB4.mono hyb.size)
        have hz4 := hB4.size
        rw [HYZ.out] at hz4
        clear cyg3 lyg3 HYZ hyf hyg hym hyl hyb hB4 ey3 cg3 cm3 cf3
        have cg4 := hg4.cell
        have fg4 := hg4.froz
        obtain ⟨w5, e5, k5, z5, g5⟩ := hg4.set3 (.int .i64 X1) (.int .i64 X2) (.int .i64 X3)
        have hR5 : CB w w5 (.slice va3 (k + 1 + 1) vc3) w3.heap.size (a, b, c) (X1, X2, X3) (cyc r (k + 1 + 1) (a, b, c)) :=
          ⟨hf4.grown g5 (by simp <;> omega), k5, hl4.apart g5 (by right; intro e; have := HL3.out _ e; omega), below_grown hb4 g5 (by omega) (by have := hb4.size; omega), by omega, HL3.out⟩
        have hM5 := hm4.grown g5 (by simp <;> omega)
        have HR5 := Lib.hid hR5
        have HM5 := Lib.hid hM5
        clear hf4 hm4 hl4 hb4 hz4 hR5 hM5 k5 hg4
        go_wp2_with fail
        go_roundw
        case rel =>
          go_light
          refine ⟨k + 1, w3.heap.size, w3.heap.size + 1, (X1, X2, X3), rfl, rfl, HXE.out, Lib.hid ⟨hI.out.cy, hI.out.gd, by have := HLT.out; omega, hI.out.n2, hI.out.ret, hI.out.first⟩, HR5, HM5, Lib.hid fun h hh => by have := HL3.out h hh; omega⟩
        case measure =>
          have := HLT.out
          simp
          omega
      · subst e1
        go_wp2_with (at_builtin; go_loud (refine app_formI (hR.out.l.alloc _) (by rfl) _ _ _ (by rfl) (by kernel_rfl) (by rfl) _ (_, _, _) (by rfl) (heap_alloc_new _ _) hlen6 (by simp; omega) ?_))
        intro v3 w3 hr3 hg3 hat3
        rw [← HS.out] at hr3
        have hz3 := hg3.size
        simp at hz3
        have hf3 := (hR.out.f.alloc _).grown hg3 (fun e => by have := (hR.out.l.lt _ e.symm).1; omega)
        have hg3' := (hR.out.g.alloc _).grown hg3 (fun e => by have := hR.out.a _ e.symm; omega)
        have hm3 := (hM.out.alloc _).grown hg3 (fun e => by have := hA.out _ e.symm; omega)
        have hb3 : Below w.heap.size w w3 := below_of_grown (hR.out.bl.alloc HBZ.out _) hg3 (by simp; omega) (fun g hg => by have := (hR.out.l.lt g hg).1; omega)
        have hbz3 := hb3.size
        obtain ⟨va3, vc3, hv3, _, _, _⟩ := hr3.sees c3_len
        rw [cyc_length] at hv3
        subst hv3
        have hl3 := fun h hh => (hr3.lt h hh).2
        have cg3 := hg3'.cell
        have cm3 := hm3.cell
        have cf3 := hf3.cell
        have lg3 := hg3'.lt
        have lm3 := hm3.lt
        have lf3 := hf3.lt
        simp only at cg3 cf3
        have HF3 := Lib.hid hf3
        have HB3 := Lib.hid hb3
        have HR3 := Lib.hid hr3
        have HL3 := Lib.hid hl3
        clear hg3 hat3 hR hM hA cf cg cm lf lg lm hr3 hf3 hg3' hm3 hb3 hl3 hlen6
        obtain ⟨y3, ey3, hyf, hyg, hym, hyl, hyb, hyz⟩ : ∃ y3, (w3.alloc (.cells #[.int .i64 g1, .int .i64 g2, .int .i64 g3] 36)).alloc (.cells #[.int .i64 N1, .int .i64 N2, .int .i64 N3, .int .i64 N4] 40) = y3 ∧ Blk w.heap.size 36 #[.int .i64 g1, .int .i64 b, .int .i64 c] y3 ∧ Blk w3.heap.size 36 #[.int .i64 g1, .int .i64 g2, .int .i64 g3] y3 ∧ Blk (w3.heap.size + 1) 40 #[.int .i64 N1, .int .i64 N2, .int .i64 N3, .int .i64 N4] y3 ∧ Rw (w.heap.size + 1) 36 3 c3 y3 (.slice va3 (k + 1 + 1) vc3) (cyc r (k + 1 + 1) (g1, b, c)) ∧ Below w.heap.size w y3 ∧ y3.heap.size = w3.heap.size + 1 + 1 := by
          refine ⟨_, rfl, (HF3.out.alloc _).alloc _, (Blk.new w3 _ _).alloc _, ?_, (HR3.out.alloc _).alloc _, (HB3.out.alloc hbz3 _).alloc (by simp; omega) _, by simp⟩
          have := Blk.new (w3.alloc (.cells #[.int .i64 g1, .int .i64 g2, .int .i64 g3] 36)) 40 #[.int .i64 N1, .int .i64 N2, .int .i64 N3, .int .i64 N4]
          simpa using this
        have HYZ := Lib.hid hyz
        have cyg3 := hyg.cell
        have lyg3 := hyg.lt
        clear hyz
        go_wp2_with fail
        try rw [ey3]
        refine (hnb1.out _).mono ?_
        rintro e4 w4 ⟨rfl, hB4⟩
        have hf4 := hyf.below hB4
        have hg4 := hyg.below hB4
        have hm4 := hym.below hB4
        have hl4 := hyl.later hB4
        have hb4 : Below w.heap.size w w4 := hyb.trans (hB4.mono hyb.size)
        have hz4 := hB4.size
        rw [HYZ.out] at hz4
        clear cyg3 lyg3 HYZ hyf hyg hym hyl hyb hB4 ey3 cg3 cm3 cf3
        have cg4 := hg4.cell
        have fg4 := hg4.froz
        obtain ⟨w5, e5, k5, z5, g5⟩ := hg4.set3 (.int .i64 X1) (.int .i64 X2) (.int .i64 X3)
        have hR5 : CB w w5 (.slice va3 (k + 1 + 1) vc3) w3.heap.size (g1, b, c) (X1, X2, X3) (cyc r (k + 1 + 1) (g1, b, c)) :=
          ⟨hf4.grown g5 (by simp <;> omega), k5, hl4.apart g5 (by right; intro e; have := HL3.out _ e; omega), below_grown hb4 g5 (by omega) (by have := hb4.size; omega), by omega, HL3.out⟩
        have hM5 := hm4.grown g5 (by simp <;> omega)
        have HR5 := Lib.hid hR5
        have HM5 := Lib.hid hM5
        clear hf4 hm4 hl4 hb4 hz4 hR5 hM5 k5 hg4
        go_wp2_with fail
        go_roundw
        case rel =>
          go_light
          refine ⟨k + 1, w3.heap.size, w3.heap.size + 1, (X1, X2, X3), rfl, rfl, HXE.out, Lib.hid ⟨hI.out.cy, hI.out.gd, by have := HLT.out; omega, hI.out.n2, hI.out.ret, hI.out.first⟩, HR5, HM5, Lib.hid fun h hh => by have := HL3.out h hh; omega⟩
        case measure =>
          have := HLT.out
          simp
          omega
      · subst e1
        subst e2
        go_wp2_with (at_builtin; go_loud (refine app_formI (hR.out.l.alloc _) (by rfl) _ _ _ (by rfl) (by kernel_rfl) (by rfl) _ (_, _, _) (by rfl) (heap_alloc_new _ _) hlen6 (by simp; omega) ?_))
        intro v3 w3 hr3 hg3 hat3
        rw [← HS.out] at hr3
        have hz3 := hg3.size
        simp at hz3
        have hf3 := (hR.out.f.alloc _).grown hg3 (fun e => by have := (hR.out.l.lt _ e.symm).1; omega)
        have hg3' := (hR.out.g.alloc _).grown hg3 (fun e => by have := hR.out.a _ e.symm; omega)
        have hm3 := (hM.out.alloc _).grown hg3 (fun e => by have := hA.out _ e.symm; omega)
        have hb3 : Below w.heap.size w w3 := below_of_grown (hR.out.bl.alloc HBZ.out _) hg3 (by simp; omega) (fun g hg => by have := (hR.out.l.lt g hg).1; omega)
        have hbz3 := hb3.size
        obtain ⟨va3, vc3, hv3, _, _, _⟩ := hr3.sees c3_len
        rw [cyc_length] at hv3
        subst hv3
        have hl3 := fun h hh => (hr3.lt h hh).2
        have cg3 := hg3'.cell
        have cm3 := hm3.cell
        have cf3 := hf3.cell
        have lg3 := hg3'.lt
        have lm3 := hm3.lt
        have lf3 := hf3.lt
        simp only at cg3 cf3
        have HF3 := Lib.hid hf3
        have HB3 := Lib.hid hb3
        have HR3 := Lib.hid hr3
        have HL3 := Lib.hid hl3
        clear hg3 hat3 hR hM hA cf cg cm lf lg lm hr3 hf3 hg3' hm3 hb3 hl3 hlen6
        obtain ⟨y3, ey3, hyf, hyg, hym, hyl, hyb, hyz⟩ : ∃ y3, (w3.alloc (.cells #[.int .i64 g1, .int .i64 g2, .int .i64 g3] 36)).alloc (.cells #[.int .i64 N1, .int .i64 N2, .int .i64 N3, .int .i64 N4] 40) = y3 ∧ Blk w.heap.size 36 #[.int .i64 g1, .int .i64 g2, .int .i64 c] y3 ∧ Blk w3.heap.size 36 #[.int .i64 g1, .int .i64 g2, .int .i64 g3] y3 ∧ Blk (w3.heap.size + 1) 40 #[.int .i64 N1, .int .i64 N2, .int .i64 N3, .int .i64 N4] y3 ∧ Rw (w.heap.size + 1) 36 3 c3 y3 (.slice va3 (k + 1 + 1) vc3) (cyc r (k + 1 + 1) (g1, g2, c)) ∧ Below w.heap.size w y3 ∧ y3.heap.size = w3.heap.size + 1 + 1 := by
          refine ⟨_, rfl, (HF3.out.alloc _).alloc _, (Blk.new w3 _ _).alloc _, ?_, (HR3.out.alloc _).alloc _, (HB3.out.alloc hbz3 _).alloc (by simp; omega) _, by simp⟩
          have := Blk.new (w3.alloc (.cells #[.int .i64 g1, .int .i64 g2, .int .i64 g3] 36)) 40 #[.int .i64 N1, .int .i64 N2, .int .i64 N3, .int .i64 N4]
          simpa using this
        have HYZ := Lib.hid hyz
        have cyg3 := hyg.cell
        have lyg3 := hyg.lt
        clear hyz
        go_wp2_with fail
        try rw [ey3]
        refine (hnb1.out _).mono ?_
        rintro e4 w4 ⟨rfl, hB4⟩
        have hf4 := hyf.below hB4
        have hg4 := hyg.below hB4
        have hm4 := hym.below hB4
        have hl4 := hyl.later hB4
        have hb4 : Below w.heap.size w w4 := hyb.trans (hB4.mono hyb.size)
        have hz4 := hB4.size
        rw [HYZ.out] at hz4
        clear cyg3 lyg3 HYZ hyf hyg hym hyl hyb hB4 ey3 cg3 cm3 cf3
        have cg4 := hg4.cell
        have fg4 := hg4.froz
        obtain ⟨w5, e5, k5, z5, g5⟩ := hg4.set3 (.int .i64 X1) (.int .i64 X2) (.int .i64 X3)
        have hR5 : CB w w5 (.slice va3 (k + 1 + 1) vc3) w3.heap.size (g1, g2, c) (X1, X2, X3) (cyc r (k + 1 + 1) (g1, g2, c)) :=
          ⟨hf4.grown g5 (by simp <;> omega), k5, hl4.apart g5 (by right; intro e; have := HL3.out _ e; omega), below_grown hb4 g5 (by omega) (by have := hb4.size; omega), by omega, HL3.out⟩
        have hM5 := hm4.grown g5 (by simp <;> omega)
        have HR5 := Lib.hid hR5
        have HM5 := Lib.hid hM5
        clear hf4 hm4 hl4 hb4 hz4 hR5 hM5 k5 hg4
        go_wp2_with fail
        go_roundw
        case rel =>
          go_light
          refine ⟨k + 1, w3.heap.size, w3.heap.size + 1, (X1, X2, X3), rfl, rfl, HXE.out, Lib.hid ⟨hI.out.cy, hI.out.gd, by have := HLT.out; omega, hI.out.n2, hI.out.ret, hI.out.first⟩, HR5, HM5, Lib.hid fun h hh => by have := HL3.out h hh; omega⟩
        case measure =>
          have := HLT.out
          simp
          omega
end Go.Proofs.Ytemnkfigjpphgaa
