/-
  The reference's product of the steps around the cycle. (Printed by mkcps.py.)
-/
import Derived.Test.YtemnkfigjpphgaaCpr
import Derived.Test.YtemnkfigjpphgaaUnf
namespace Go.Proofs.Ytemnkfigjpphgaa
open Go.RowKit
attribute [local simp, local go_sem] past_cell past_frozen past_tape
/-- The blocks of the loop. -/
structure CPB (w wr : World) (A G : Nat) (f g : Fm) (M : Mt) : Prop where
  f : Blk w.heap.size 36 #[.int .i64 f.1, .int .i64 f.2.1, .int .i64 f.2.2] wr
  r : Blk (w.heap.size + 1) 40 #[.int .i64 0, .int .i64 0, .int .i64 0, .int .i64 0] wr
  a : Blk A 40 #[.int .i64 M.1, .int .i64 M.2.1, .int .i64 M.2.2.1, .int .i64 M.2.2.2] wr
  g : Blk G 36 #[.int .i64 g.1, .int .i64 g.2.1, .int .i64 g.2.2] wr
  b : Below w.heap.size w wr
  o : w.heap.size + 1 < A ∧ A < G
theorem CPB.below {w wr w' : World} {A G : Nat} {f g : Fm} {M : Mt} (h : CPB w wr A G f g M) (hb : Below wr.heap.size wr w') : CPB w w' A G f g M :=
  ⟨h.f.below hb, h.r.below hb, h.a.below hb, h.g.below hb, h.b.trans (hb.mono h.b.size), h.o⟩
theorem CPB.alloc {w wr : World} {A G : Nat} {f g : Fm} {M : Mt} (h : CPB w wr A G f g M) (o : Obj) : CPB w (wr.alloc o) A G f g M :=
  ⟨h.f.alloc o, h.r.alloc o, h.a.alloc o, h.g.alloc o, h.b.alloc (by have := h.b.size; omega) _, h.o⟩
theorem mle_wide {M : Mt} (h : mle 1000000 M) : mle 1000000000 M := by
  obtain ⟨h1, h2, h3, h4⟩ := h
  exact ⟨by omega, by omega, by omega, by omega⟩
set_option maxRecDepth 100000 in
set_option maxHeartbeats 16000000 in
theorem specCycleProduct_any (a b c m1 m2 m3 m4 : Int) (ok : Bool) (w : World) (h : CPv (a, b, c) (m1, m2, m3, m4) ok) :
    Calls Try.prog 34 #[.agg #[.int .i64 a, .int .i64 b, .int .i64 c]] w fun en w' => en = .returned (.tuple #[.agg #[.int .i64 m1, .int .i64 m2, .int .i64 m3, .int .i64 m4], .bool ok]) ∧ Below w.heap.size w w' := by
  have hgood : Hid (∀ w0, Calls Try.prog 73 #[.agg #[.int .i64 a, .int .i64 b, .int .i64 c]] w0 fun en w' => en = .returned (.bool (indB a b c)) ∧ Below w0.heap.size w0 w') := Lib.hid fun w0 => cyGood_any a b c w0
  have H1 : Hid (Blk (w.heap.size + 1) 40 #[.int .i64 0, .int .i64 0, .int .i64 0, .int .i64 0] ((w.alloc (.cells #[.int .i64 a, .int .i64 b, .int .i64 c] 36)).alloc (.cells #[.int .i64 0, .int .i64 0, .int .i64 0, .int .i64 0] 40))) := Lib.hid (by
    have := Blk.new (w.alloc (.cells #[.int .i64 a, .int .i64 b, .int .i64 c] 36)) 40 #[.int .i64 0, .int .i64 0, .int .i64 0, .int .i64 0]
    simpa using this)
  have H0 : Hid (Blk w.heap.size 36 #[.int .i64 a, .int .i64 b, .int .i64 c] ((w.alloc (.cells #[.int .i64 a, .int .i64 b, .int .i64 c] 36)).alloc (.cells #[.int .i64 0, .int .i64 0, .int .i64 0, .int .i64 0] 40))) := Lib.hid ((Blk.new w _ _).alloc _)
  cases hi : indB a b c with
  | false =>
    obtain ⟨rfl, rfl, rfl, rfl, rfl⟩ : m1 = 0 ∧ m2 = 0 ∧ m3 = 0 ∧ m4 = 0 ∧ ok = false := by
      rcases h with ⟨_, h1, h2⟩ | ⟨h1, _⟩
      · simp only [Prod.mk.injEq] at h1
        exact ⟨h1.1, h1.2.1, h1.2.2.1, h1.2.2.2, h2⟩
      · simp only at h1
        rw [hi] at h1; cases h1
    rw [hi] at hgood
    clear hi h
    go_enter Try.func34, Try.ntmps34
    go_wp2_with fail
    refine (hgood.out _).mono ?_
    rintro e1 w1 ⟨rfl, hB1⟩
    have k1 := H1.out.below hB1
    have c1 := k1.cell
    have f1 := k1.froz
    have l1 := k1.lt
    have HB : Hid (Below w.heap.size w w1) := Lib.hid (by repeat (first | with_reducible exact Below.refl _ _ | with_reducible assumption | ((with_reducible refine blA ?_ ?_); (focus (first | omega | (simp <;> omega)))) | (with_reducible refine blD ?_) | (with_reducible refine blN ?_) | ((with_reducible refine blS ?_ ?_); (focus (first | omega | (simp <;> omega)))) | ((with_reducible refine blT (by assumption) ?_ ?_); (focus (first | omega | (simp <;> omega))))))
    clear k1 hB1 H0 H1 hgood
    go_wp2_with fail
    refine bodyPost_ret (v := .tuple #[.agg #[.int .i64 0, .int .i64 0, .int .i64 0, .int .i64 0], .bool false]) (by go_light; simp [results, Try.results34, go_sem, *]) rfl ⟨rfl, ?_⟩
    have hq := HB.out
    repeat (first | with_reducible exact Below.refl _ _ | with_reducible assumption | ((with_reducible refine blA ?_ ?_); (focus (first | omega | (simp <;> omega)))) | (with_reducible refine blD ?_) | (with_reducible refine blN ?_) | ((with_reducible refine blS ?_ ?_); (focus (first | omega | (simp <;> omega)))) | ((with_reducible refine blT (by assumption) ?_ ?_); (focus (first | omega | (simp <;> omega)))))
  | true =>
  have hgd := ind_gd hi
  have hcyi : Hid (∀ w0, Calls Try.prog 94 #[.agg #[.int .i64 a, .int .i64 b, .int .i64 c]] w0 fun en w' => en = .returned (.bool (cyB (isqrt (discW a b c)) (a, b, c))) ∧ Below w0.heap.size w0 w') := Lib.hid fun w0 => cyIs_any _ _ a b c w0 hgd
  rw [hi] at hgood
  cases hc : cyB (isqrt (discW a b c)) (a, b, c) with
  | false =>
    obtain ⟨rfl, rfl, rfl, rfl, rfl⟩ : m1 = 0 ∧ m2 = 0 ∧ m3 = 0 ∧ m4 = 0 ∧ ok = false := by
      rcases h with ⟨_, h1, h2⟩ | ⟨_, h1, _⟩
      · simp only [Prod.mk.injEq] at h1
        exact ⟨h1.1, h1.2.1, h1.2.2.1, h1.2.2.2, h2⟩
      · simp only at h1
        rw [hc] at h1; cases h1
    rw [hc] at hcyi
    clear hi h hc hgd
    go_enter Try.func34, Try.ntmps34
    go_wp2_with fail
    refine (hgood.out _).mono ?_
    rintro e1 w1 ⟨rfl, hB1⟩
    have K0 := Lib.hid (H0.out.below hB1)
    have K1 := Lib.hid (H1.out.below hB1)
    have HB : Hid (Below w.heap.size w w1) := Lib.hid (by repeat (first | with_reducible exact Below.refl _ _ | with_reducible assumption | ((with_reducible refine blA ?_ ?_); (focus (first | omega | (simp <;> omega)))) | (with_reducible refine blD ?_) | (with_reducible refine blN ?_) | ((with_reducible refine blS ?_ ?_); (focus (first | omega | (simp <;> omega)))) | ((with_reducible refine blT (by assumption) ?_ ?_); (focus (first | omega | (simp <;> omega))))))
    have c0 := K0.out.cell
    have l0 := K0.out.lt
    clear hB1 H0 H1 hgood
    go_wp2_with fail
    refine (hcyi.out _).mono ?_
    rintro e2 w2 ⟨rfl, hB2⟩
    have k2 := K1.out.below hB2
    have c2 := k2.cell
    have f2 := k2.froz
    have l2 := k2.lt
    have HB2 : Hid (Below w.heap.size w w2) := Lib.hid (HB.out.trans (hB2.mono HB.out.size))
    clear k2 hB2 K0 K1 hcyi c0 l0 HB
    go_wp2_with fail
    refine bodyPost_ret (v := .tuple #[.agg #[.int .i64 0, .int .i64 0, .int .i64 0, .int .i64 0], .bool false]) (by go_light; simp [results, Try.results34, go_sem, *]) rfl ⟨rfl, ?_⟩
    have hq := HB2.out
    repeat (first | with_reducible exact Below.refl _ _ | with_reducible assumption | ((with_reducible refine blA ?_ ?_); (focus (first | omega | (simp <;> omega)))) | (with_reducible refine blD ?_) | (with_reducible refine blN ?_) | ((with_reducible refine blS ?_ ?_); (focus (first | omega | (simp <;> omega)))) | ((with_reducible refine blT (by assumption) ?_ ?_); (focus (first | omega | (simp <;> omega)))))
  | true =>
  rw [hc] at hcyi
  obtain ⟨p, hper⟩ : ∃ p, Per (isqrt (discW a b c)) (a, b, c) p := nbn_first (cyB_iff.1 hc) hgd.root hgd.r31
  obtain ⟨r, hr⟩ : ∃ r, isqrt (discW a b c) = r := ⟨_, rfl⟩
  obtain ⟨d, hd⟩ : ∃ d, discW a b c = d := ⟨_, rfl⟩
  have HR := Lib.hid hr
  rw [hr] at hper hgd hc
  rw [hd] at hgd
  have HV := Lib.hid h
  have HI := Lib.hid hi
  have HCB := Lib.hid hc
  have HC := Lib.hid (cyB_iff.1 hc)
  have HG := Lib.hid hgd
  have HP := Lib.hid hper
  clear h hi hc hgd hper hr hd
  go_enter Try.func34, Try.ntmps34
  go_wp2_with fail
  refine (hgood.out _).mono ?_
  rintro e1 w1 ⟨rfl, hB1⟩
  have K0 := Lib.hid (H0.out.below hB1)
  have K1 := Lib.hid (H1.out.below hB1)
  have HB : Hid (Below w.heap.size w w1) := Lib.hid (by repeat (first | with_reducible exact Below.refl _ _ | with_reducible assumption | ((with_reducible refine blA ?_ ?_); (focus (first | omega | (simp <;> omega)))) | (with_reducible refine blD ?_) | (with_reducible refine blN ?_) | ((with_reducible refine blS ?_ ?_); (focus (first | omega | (simp <;> omega)))) | ((with_reducible refine blT (by assumption) ?_ ?_); (focus (first | omega | (simp <;> omega))))))
  have c0 := K0.out.cell
  have l0 := K0.out.lt
  clear hB1 H0 H1 hgood
  go_wp2_with fail
  refine (hcyi.out _).mono ?_
  rintro e2 w2 ⟨rfl, hB2⟩
  have k0 := Lib.hid (K0.out.below hB2)
  have k1 := Lib.hid (K1.out.below hB2)
  have HB2 : Hid (Below w.heap.size w w2) := Lib.hid (HB.out.trans (hB2.mono HB.out.size))
  clear hB2 K0 K1 hcyi c0 l0 HB
  have hA1 : w.heap.size + 1 < w2.heap.size := k1.out.lt
  obtain ⟨V, hV, HB0⟩ : ∃ V, (w2.alloc (.cells #[.int .i64 1, .int .i64 0, .int .i64 0, .int .i64 1] 40)).alloc (.cells #[.int .i64 a, .int .i64 b, .int .i64 c] 36) = V ∧ Hid (CPB w V w2.heap.size (w2.heap.size + 1) (a, b, c) (a, b, c) mI) := by
    refine ⟨_, rfl, Lib.hid ⟨(k0.out.alloc _).alloc _, (k1.out.alloc _).alloc _, (Blk.new _ _ _).alloc _, ?_, (HB2.out.alloc HB2.out.size _).alloc (by have := HB2.out.size; simp; omega) _, ⟨hA1, by omega⟩⟩⟩
    have := Blk.new (w2.alloc (.cells #[.int .i64 1, .int .i64 0, .int .i64 0, .int .i64 1] 40)) 36 #[.int .i64 a, .int .i64 b, .int .i64 c]
    simpa using this
  have c0 := k0.out.cell
  have l0 := k0.out.lt
  go_wp2_with fail
  try rw [hV]
  obtain ⟨A, hA⟩ : ∃ A, w2.heap.size = A := ⟨_, rfl⟩
  rw [hA] at HB0 ⊢
  clear hV k0 k1 HB2 hA1 hA c0 l0
  go_loopw [5] (fun gv wr => ∃ (n G : Nat), gv = .pointer (some ⟨G, 0, none⟩) ∧ Hid (n < p) ∧ Hid (CPB w wr A G (a, b, c) (nbn r n (a, b, c)) (nmn r n (a, b, c))) ∧ Hid (∀ j, j ≤ n → mle 1000000 (nmn r j (a, b, c))) ∧ Hid (Gd r d (nbn r n (a, b, c)))) (fun gv wr => dst r (a, b, c) (nb r (atF wr gv)))
  case atStart =>
    exact ⟨0, A + 1, rfl, Lib.hid (by have := HP.out.1; omega), HB0, Lib.hid fun j hj => (by have e : j = 0 := by { omega }; rw [e]; exact (show mle 1000000 mI from ⟨by decide, by decide, by decide, by decide⟩)), HG⟩
  case round =>
    clear HB0
    obtain ⟨n, G, rfl, hn, hU, hM, hg⟩ := hrel
    obtain ⟨⟨x1, x2, x3⟩, hx⟩ : ∃ x, nbn r n (a, b, c) = x := ⟨_, rfl⟩
    obtain ⟨⟨M1, M2, M3, M4⟩, hMM⟩ : ∃ x, nmn r n (a, b, c) = x := ⟨_, rfl⟩
    rw [hx] at hU hg
    have hMn := hM.out n (Nat.le_refl _)
    rw [hMM] at hU hMn
    have HX := Lib.hid hx
    have HMM := Lib.hid hMM
    have hmv := Lib.hid fun w1 => cyMove_any r d x1 x2 x3 w1 hg.out
    have hac := Lib.hid fun w1 => foActN_any r d x1 x2 x3 w1 hg.out
    have hmm := mB_mle.1 (nmg_mB hg.out)
    have hml := Lib.hid fun w1 => foMul_wide (M1, M2, M3, M4) (nmg r (x1, x2, x3)) w1 (mle_wide hMn) hmm
    obtain ⟨⟨m1', m2', m3', m4'⟩, hm⟩ : ∃ x, nmg r (x1, x2, x3) = x := ⟨_, rfl⟩
    obtain ⟨⟨y1, y2, y3⟩, hy⟩ : ∃ x, nbg r (x1, x2, x3) = x := ⟨_, rfl⟩
    rw [hm] at hmv hac hml
    rw [hy] at hac
    obtain ⟨⟨P1, P2, P3, P4⟩, hP⟩ : ∃ x, mm (M1, M2, M3, M4) (m1', m2', m3', m4') = x := ⟨_, rfl⟩
    rw [hP] at hml
    simp only at hmv hac hml
    have HM := Lib.hid hm
    have HY := Lib.hid hy
    have HPP := Lib.hid hP
    clear hx hMM hmm hm hy hP hMn
    have cg := hU.out.g.cell
    have lg := hU.out.g.lt
    simp only at cg
    have HCX := Lib.hid cg
    go_wp2_with fail
    refine (hmv.out _).mono ?_
    rintro e2 z2 ⟨rfl, hB2⟩
    have hU2 := Lib.hid (hU.out.below hB2)
    clear hU hB2 cg lg hmv
    obtain ⟨z3, ez3, K3, hU3⟩ : ∃ z3, z2.alloc (.cells #[.int .i64 m1', .int .i64 m2', .int .i64 m3', .int .i64 m4'] 40) = z3 ∧ Hid (Blk z2.heap.size 40 #[.int .i64 m1', .int .i64 m2', .int .i64 m3', .int .i64 m4'] z3) ∧ Hid (CPB w z3 A G (a, b, c) (x1, x2, x3) (M1, M2, M3, M4)) := ⟨_, rfl, Lib.hid (Blk.new _ _ _), Lib.hid (hU2.out.alloc _)⟩
    have hGm : G < z2.heap.size := hU2.out.g.lt
    obtain ⟨mb, hmb⟩ : ∃ mb, z2.heap.size = mb := ⟨_, rfl⟩
    rw [hmb] at K3 hGm
    have c3g := hU3.out.g.cell
    have l3g := hU3.out.g.lt
    have c3a := hU3.out.a.cell
    have l3a := hU3.out.a.lt
    have c3m := K3.out.cell
    have l3m := K3.out.lt
    simp only at c3g c3a
    clear hU2
    go_wp2_with fail
    try rw [ez3]
    refine wp_region_past_tail 6 (by kernel_rfl) (by kernel_rfl) ?_
    simp only [List.take_succ_cons, List.take_zero, List.drop_succ_cons, List.drop_zero]
    repeat (first | go_big_quiet_skip | (go_big_quiet_want; go_big_quiet_op; first | go_big_quiet_on | (apply Exists.intro; refine ⟨fun _ => ?_, ?_⟩; (focus (first | (go_at_call 79; exact past_of (hac.out _)) | (go_at_call 80; exact past_of (hml.out _)))); go_big_quiet_on)))
    refine wpQuiet_nil ?_
    intro w1 hw'
    have hB1 := past_below hw'
    clear hw'
    obtain ⟨hC1, hF1⟩ := bcell hB1
    have hS1 := hB1.size
    (try simp at hS1)
    (try have hS1_w0 : w.heap.size < w1.heap.size := by omega)
    (try have hS1_w1 : w.heap.size + 1 < w1.heap.size := by omega)
    (try have hS1_w2 : w.heap.size + 1 + 1 < w1.heap.size := by omega)
    (try have hS1_w3 : w.heap.size + 1 + 1 + 1 < w1.heap.size := by omega)
    (try have hS1_w4 : w.heap.size + 1 + 1 + 1 + 1 < w1.heap.size := by omega)
    have hU4 := hU3.out.below hB1
    have c4g := hU4.g.cell
    have f4g := hU4.g.froz
    have c4a := hU4.a.cell
    have f4a := hU4.a.froz
    have l4g := hU4.g.lt
    have l4a := hU4.a.lt
    have ho4 := hU4.o
    obtain ⟨z5, ez5, K5, zz5, q5⟩ := hU4.g.set3 (.int .i64 y1) (.int .i64 y2) (.int .i64 y3)
    have a5 := hU4.a.grown q5 (by simp <;> omega)
    have c5a := a5.cell
    have f5a := a5.froz
    have l5a := a5.lt
    obtain ⟨z6, ez6, K6, zz6, q6⟩ := a5.set4 (.int .i64 P1) (.int .i64 P2) (.int .i64 P3) (.int .i64 P4)
    have hU6 : Hid (CPB w z6 A G (a, b, c) (y1, y2, y3) (P1, P2, P3, P4)) := Lib.hid ⟨(hU4.f.grown q5 (by simp <;> omega)).grown q6 (by simp <;> omega), (hU4.r.grown q5 (by simp <;> omega)).grown q6 (by simp <;> omega), K6, K5.grown q6 (by simp <;> omega), below_grown (below_grown hU4.b q5 (by omega) (by have := hU4.b.size; omega)) q6 (by omega) (by have := hU4.b.size; omega), hU4.o⟩
    simp only at c4g c4a c5a
    clear hB1 hC1 hF1 hU3 hU4 K3 K5 K6 q5 q6 zz5 zz6 a5 c3g l3g c3a l3a c3m l3m ez3 hac hml
    have c6a := hU6.out.a.cell
    have l6a := hU6.out.a.lt
    simp only at c6a
    go_wp2_with fail
    obtain ⟨hs1, hs2, hs3, hs4⟩ := next_step HC.out HG.out HX.out HMM.out HM.out HY.out HPP.out
    have hgy := hg.out.next.1
    rw [HY.out] at hgy
    have HNX := Lib.hid (And.intro hs1 hs2)
    have HNB := Lib.hid hs4
    have HGY := Lib.hid hgy
    have hmat := Lib.hid fun w0 => sMatrix_any P1 P2 P3 P4 w0
    clear hs1 hs2 hs3 hs4 hgy c4g f4g c4a f4a l4g l4a ez5 c5a f5a l5a ez6 hS1 ho4
    refine (hmat.out _).mono ?_
    rintro e7 z7 ⟨rfl, hB7⟩
    have hU7 := Lib.hid (hU6.out.below hB7)
    clear hU6 hB7 hmat c6a l6a
    cases hmb' : mB P1 P2 P3 P4 with
    | false =>
      have hz := HV.out.big HR.out HI.out HCB.out HP.out (n := n + 1) hn.out (by rw [HNX.out.2]; intro hx; have := (mB_mle (M := (P1, P2, P3, P4))).2 hx; rw [hmb'] at this; cases this)
      simp only [Prod.mk.injEq] at hz
      obtain ⟨⟨rfl, rfl, rfl, rfl⟩, rfl⟩ := hz
      have c7r := hU7.out.r.cell
      have f7r := hU7.out.r.froz
      have l7r := hU7.out.r.lt
      have HB8 := Lib.hid hU7.out.b
      clear hmb' hU7 HNX
      go_wp2_with fail
      refine bodyPost_ret (v := .tuple #[.agg #[.int .i64 0, .int .i64 0, .int .i64 0, .int .i64 0], .bool false]) (by go_light; simp [results, Try.results34, go_sem, *]) rfl ⟨rfl, ?_⟩
      have hq := HB8.out
      repeat (first | with_reducible exact Below.refl _ _ | with_reducible assumption | ((with_reducible refine blA ?_ ?_); (focus (first | omega | (simp <;> omega)))) | (with_reducible refine blD ?_) | (with_reducible refine blN ?_) | ((with_reducible refine blS ?_ ?_); (focus (first | omega | (simp <;> omega)))) | ((with_reducible refine blT (by assumption) ?_ ?_); (focus (first | omega | (simp <;> omega)))))
    | true =>
      have HMX : Hid (∀ j, j ≤ n + 1 → mle 1000000 (nmn r j (a, b, c))) := Lib.hid fun j hj => by
        rcases (show j ≤ n ∨ j = n + 1 by omega) with h | h
        · exact hM.out j h
        · rw [h, HNX.out.2]; exact (mB_mle (M := (P1, P2, P3, P4))).1 hmb'
      clear hmb'
      have c7g := hU7.out.g.cell
      have l7g := hU7.out.g.lt
      have c7f := hU7.out.f.cell
      have l7f := hU7.out.f.lt
      simp only at c7g c7f
      by_cases hyf : ((y1, y2, y3) : Fm) = (a, b, c)
      · have hnp : n + 1 = p := by
          obtain ⟨h1, h2, h3, h4⟩ := HP.out
          have h5 := hn.out
          rcases (show n + 1 < p ∨ n + 1 = p by omega) with h | h
          · exact absurd (HNX.out.1.trans hyf) (h4 _ (by omega) h)
          · exact h
        have hz := HV.out.back HR.out HI.out HCB.out HP.out (fun j hj => HMX.out j (by omega))
        rw [← hnp, HNX.out.2] at hz
        simp only [Prod.mk.injEq] at hz hyf
        obtain ⟨⟨e1, e2, e3, e4⟩, e5⟩ := hz
        obtain ⟨e6, e7, e8⟩ := hyf
        subst e1 e2 e3 e4 e5
        clear HNX HMX HNB HGY HCX hM hg HX HMM HM HY HPP hn HP HC HCB HI HR HV HG hnp
        subst y1 y2 y3
        have c7a := hU7.out.a.cell
        have l7a := hU7.out.a.lt
        have c7r := hU7.out.r.cell
        have f7r := hU7.out.r.froz
        have l7r := hU7.out.r.lt
        have HB8 := Lib.hid hU7.out.b
        simp only at c7a
        clear hU7
        go_wp2_with fail
        refine bodyPost_ret (v := .tuple #[.agg #[.int .i64 m1, .int .i64 m2, .int .i64 m3, .int .i64 m4], .bool true]) (by go_light; simp [results, Try.results34, go_sem, *]) rfl ⟨rfl, ?_⟩
        have hq := HB8.out
        repeat (first | with_reducible exact Below.refl _ _ | with_reducible assumption | ((with_reducible refine blA ?_ ?_); (focus (first | omega | (simp <;> omega)))) | (with_reducible refine blD ?_) | (with_reducible refine blN ?_) | ((with_reducible refine blS ?_ ?_); (focus (first | omega | (simp <;> omega)))) | ((with_reducible refine blT (by assumption) ?_ ?_); (focus (first | omega | (simp <;> omega)))))
      have split3 : ¬ y1 = a ∨ (y1 = a ∧ ¬ y2 = b) ∨ (y1 = a ∧ y2 = b ∧ ¬ y3 = c) := by
        by_cases e1 : y1 = a
        · by_cases e2 : y2 = b
          · exact .inr (.inr ⟨e1, e2, fun e3 => hyf (by rw [e1, e2, e3])⟩)
          · exact .inr (.inl ⟨e1, e2⟩)
        · exact .inl e1
      have HLT : Hid (n + 1 < p ∧ dst r (a, b, c) (nb r (y1, y2, y3)) < dst r (a, b, c) (y1, y2, y3)) := Lib.hid (by
        have h5 := hn.out
        have h6 := HNX.out.1
        have h7 : n + 1 < p := by
          rcases (show n + 1 < p ∨ n + 1 = p by omega) with h | h
          · exact h
          · rw [h, HP.out.2.2.1] at h6
            exact absurd h6.symm hyf
        have h8 := per_less HP.out (show 0 < n + 1 by omega) h7
        rw [nbn_succ, h6] at h8
        exact ⟨h7, h8⟩)
      clear hyf
      rcases split3 with e1 | ⟨e1, e2⟩ | ⟨e1, e2, e3⟩
      · go_wp2_with fail
        have hU8 := hU7.out.alloc (.cells #[.int .i64 y1, .int .i64 y2, .int .i64 y3] 36)
        have K8 := Blk.new z7 36 #[.int .i64 y1, .int .i64 y2, .int .i64 y3]
        have hG7 := hU7.out.o
        have hG8 := hU7.out.g.lt
        have HU9 : Hid (CPB w (z7.alloc (.cells #[.int .i64 y1, .int .i64 y2, .int .i64 y3] 36)) A z7.heap.size (a, b, c) (y1, y2, y3) (P1, P2, P3, P4)) := Lib.hid ⟨hU8.f, hU8.r, hU8.a, K8, hU8.b, ⟨hG7.1, by omega⟩⟩
        clear hU8 K8 hG7 hG8 hU7
        go_roundw
        case rel =>
          go_light
          exact ⟨n + 1, z7.heap.size, rfl, Lib.hid HLT.out.1, by rw [HNX.out.1, HNX.out.2]; exact HU9, HMX, by rw [HNX.out.1]; exact HGY⟩
        case measure =>
          have h0 := HCX.out
          have h1 := HLT.out.2
          have h2 := HU9.out.g.cell
          have h3 := HNB.out
          simp only at h2
          simp [atF, intOf, h0, h2, h3]
          exact h1
      · subst y1
        go_wp2_with fail
        have hU8 := hU7.out.alloc (.cells #[.int .i64 a, .int .i64 y2, .int .i64 y3] 36)
        have K8 := Blk.new z7 36 #[.int .i64 a, .int .i64 y2, .int .i64 y3]
        have hG7 := hU7.out.o
        have hG8 := hU7.out.g.lt
        have HU9 : Hid (CPB w (z7.alloc (.cells #[.int .i64 a, .int .i64 y2, .int .i64 y3] 36)) A z7.heap.size (a, b, c) (a, y2, y3) (P1, P2, P3, P4)) := Lib.hid ⟨hU8.f, hU8.r, hU8.a, K8, hU8.b, ⟨hG7.1, by omega⟩⟩
        clear hU8 K8 hG7 hG8 hU7
        go_roundw
        case rel =>
          go_light
          exact ⟨n + 1, z7.heap.size, rfl, Lib.hid HLT.out.1, by rw [HNX.out.1, HNX.out.2]; exact HU9, HMX, by rw [HNX.out.1]; exact HGY⟩
        case measure =>
          have h0 := HCX.out
          have h1 := HLT.out.2
          have h2 := HU9.out.g.cell
          have h3 := HNB.out
          simp only at h2
          simp [atF, intOf, h0, h2, h3]
          exact h1
      · subst y1
        subst y2
        go_wp2_with fail
        have hU8 := hU7.out.alloc (.cells #[.int .i64 a, .int .i64 b, .int .i64 y3] 36)
        have K8 := Blk.new z7 36 #[.int .i64 a, .int .i64 b, .int .i64 y3]
        have hG7 := hU7.out.o
        have hG8 := hU7.out.g.lt
        have HU9 : Hid (CPB w (z7.alloc (.cells #[.int .i64 a, .int .i64 b, .int .i64 y3] 36)) A z7.heap.size (a, b, c) (a, b, y3) (P1, P2, P3, P4)) := Lib.hid ⟨hU8.f, hU8.r, hU8.a, K8, hU8.b, ⟨hG7.1, by omega⟩⟩
        clear hU8 K8 hG7 hG8 hU7
        go_roundw
        case rel =>
          go_light
          exact ⟨n + 1, z7.heap.size, rfl, Lib.hid HLT.out.1, by rw [HNX.out.1, HNX.out.2]; exact HU9, HMX, by rw [HNX.out.1]; exact HGY⟩
        case measure =>
          have h0 := HCX.out
          have h1 := HLT.out.2
          have h2 := HU9.out.g.cell
          have h3 := HNB.out
          simp only at h2
          simp [atF, intOf, h0, h2, h3]
          exact h1
end Go.Proofs.Ytemnkfigjpphgaa
