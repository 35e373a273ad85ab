/-
  The reference's fundamental solution.
-/
import Derived.Test.YtemnkfigjpphgaaPmf
import Derived.Test.YtemnkfigjpphgaaIcs
import Derived.Test.YtemnkfigjpphgaaPrf
import Derived.Test.YtemnkfigjpphgaaUfm
import Derived.Test.YtemnkfigjpphgaaIcm
namespace Go.Proofs.Ytemnkfigjpphgaa
open Go.RowKit
attribute [local simp, local go_sem] past_cell past_frozen past_tape
theorem diIs_pos {d : Int} (hp : posB d = true) : d % 4 ≤ 1 ∧ sqB d = false := by
  unfold posB at hp
  simp only [Bool.and_eq_true, decide_eq_true_eq, Bool.not_eq_true'] at hp
  exact ⟨hp.1.2.2, hp.2⟩
theorem diIsP_any (d : Int) (w : World) (hp : posB d = true) : Calls Try.prog 130 #[.int .i64 d] w fun e w' => e = .returned (.bool true) ∧ w = w' := by
  obtain ⟨d1, d2⟩ := posB_true hp
  obtain ⟨d3, d4⟩ := diIs_pos hp
  have c1 : numB d = true := by unfold numB; exact decide_eq_true ⟨by omega, by omega⟩
  have hm0 := Int.emod_nonneg d (show (4 : Int) ≠ 0 by omega)
  have c2 : d % 4 < 2 := by omega
  go_enter Try.func130, Try.ntmps130
  go_wp2_with (first | (go_at_call 108; refine (nuGood_any _ _).mono ?_; rintro e w' ⟨rfl, rfl⟩) | (go_at_call 102; refine (nuMod_any _ _ _ ⟨by omega, by omega⟩ (by omega) (by omega)).mono ?_; rintro e w' ⟨rfl, rfl⟩) | (go_at_call 64; refine (nuSquare_any _ _ (by omega)).mono ?_; rintro e w' ⟨rfl, rfl⟩))
  go_ret
  exact ⟨rfl, rfl⟩
theorem principalForm_any (d : Int) (w : World) (hp : posB d = true) :
    Calls Try.prog 124 #[.int .i64 d] w fun en w' => en = .returned (.tuple #[.agg #[.int .i64 1, .int .i64 (d % 2), .int .i64 ((d % 2 - d).tdiv 4)], .bool true]) ∧ Below w.heap.size w w' := by
  obtain ⟨d1, d2⟩ := posB_true hp
  have hdi := Lib.hid fun w1 => diIsP_any d w1 hp
  go_enter Try.func124, Try.ntmps124
  go_wp2_with (first | (go_at_call 130; refine (hdi.out _).mono ?_; rintro e w' ⟨rfl, rfl⟩) | (go_at_call 102; refine (nuMod_any _ _ _ ⟨by omega, by omega⟩ (by omega) (by omega)).mono ?_; rintro e w' ⟨rfl, rfl⟩))
  refine bodyPost_ret (v := .tuple #[.agg #[.int .i64 1, .int .i64 (d % 2), .int .i64 ((d % 2 - d).tdiv 4)], .bool true]) (by go_light; simp [results, Try.results124, go_sem, *]) rfl ⟨rfl, ?_⟩
  repeat (first | with_reducible exact Below.refl _ _ | with_reducible assumption | ((with_reducible refine blA ?_ ?_); (focus (first | omega | (simp <;> omega)))) | (with_reducible refine blD ?_) | (with_reducible refine blN ?_) | ((with_reducible refine blS ?_ ?_); (focus (first | omega | (simp <;> omega)))) | ((with_reducible refine blT (by assumption) ?_ ?_); (focus (first | omega | (simp <;> omega)))))
theorem prf_gd {d : Int} (hp : posB d = true) : Gd (isqrt d) d (prf d) := by
  obtain ⟨h1, h2⟩ := rt_of hp
  obtain ⟨d1, d2⟩ := posB_true hp
  obtain ⟨d3, _⟩ := diIs_pos hp
  have hm := Int.emod_nonneg d (show (2 : Int) ≠ 0 by omega)
  have hm2 := Int.emod_lt_of_pos d (show (0 : Int) < 2 by omega)
  obtain ⟨m, hmm⟩ : ∃ m, d % 2 - d = 4 * m := ⟨(d % 2 - d) / 4, by omega⟩
  have ht : (d % 2 - d).tdiv 4 = m := by rw [hmm, Int.mul_tdiv_cancel_left _ (by omega)]
  refine ⟨⟨by simp [prf], by simp [prf]⟩, ⟨by simp only [prf]; omega, by simp only [prf]; omega⟩, ⟨by simp only [prf]; omega, by simp only [prf]; omega⟩, ?_, h1, h2⟩
  simp only [fdisc, prf]
  rw [ht]
  rcases (show d % 2 = 0 ∨ d % 2 = 1 by omega) with e | e <;> rw [e] <;> omega
theorem prf_ok {d : Int} (hp : posB d = true) : prOk (isqrt d) d = true := by
  obtain ⟨d1, d2⟩ := posB_true hp
  obtain ⟨d3, d4⟩ := diIs_pos hp
  obtain ⟨s0, s1, s2⟩ := isqrt_spec (n := d) (by omega)
  obtain ⟨_, h31⟩ := rt_of hp
  obtain ⟨r, hr⟩ : ∃ r : Nat, isqrt d = (r : Int) := ⟨(isqrt d).toNat, by omega⟩
  obtain ⟨n, rfl⟩ : ∃ n : Nat, d = (n : Int) := ⟨d.toNat, by omega⟩
  have hne : isqrt (n : Int) * isqrt (n : Int) ≠ (n : Int) := fun e => by
    unfold sqB at d4
    rw [e] at d4
    simp at d4
    try omega
  rw [hr] at s1 s2 hne h31 ⊢
  have e1 : ((r * r : Nat) : Int) = (r : Int) * r := by push_cast; rfl
  have e2 : (((r + 1) * (r + 1) : Nat) : Int) = ((r : Int) + 1) * ((r : Int) + 1) := by push_cast; rfl
  exact prOk_of (by omega) (by omega) (by omega) (by omega) (by omega) (by omega)
theorem mmw_bd {a b c d : Int} (ha : (a.natAbs : Int) ≤ 1000000000) (hb : (b.natAbs : Int) ≤ 1000000) (hc : (c.natAbs : Int) ≤ 1000000000) (hd : (d.natAbs : Int) ≤ 1000000) : Bd 2000000000000000 (a * b + c * d) := by
  obtain ⟨x1, x2⟩ := mul_bd (bd_iff.2 ha) (bd_iff.2 hb) (show (1000000000 : Int) * 1000000 ≤ 1000000000000000 by decide)
  obtain ⟨x3, x4⟩ := mul_bd (bd_iff.2 hc) (bd_iff.2 hd) (show (1000000000 : Int) * 1000000 ≤ 1000000000000000 by decide)
  exact ⟨by omega, by omega⟩
/-- The next step of the walk round the cycle. -/
theorem next_step {r d : Int} {f x y : Fm} {M m P : Mt} {n : Nat} (hC : Cy r f) (hg : Gd r d f) (hx : nbn r n f = x) (hM : nmn r n f = M) (hm : nmg r x = m) (hy : nbg r x = y) (hP : mm M m = P) : nbn r (n + 1) f = y ∧ nmn r (n + 1) f = P ∧ Cy r x ∧ nb r x = y := by
  obtain ⟨c1, c2⟩ := hC.nth n hg.root
  rw [hx] at c1 c2
  obtain ⟨e1, e2⟩ := c1.nbg c2
  refine ⟨?_, ?_, c1, by rw [← hy, e1]⟩
  · rw [nbn_succ, hx, ← e1, hy]
  · rw [nmn_succ, hx, hM, ← e2, hm, hP]
/-- The blocks of the loop: the form F, the product A with the form of the cycle behind it. -/
structure UB (w wr : World) (F A G : Nat) (f g : Fm) (M : Mt) : Prop where
  r : Blk w.heap.size 27 #[.int .i64 0, .int .i64 0] wr
  f : Blk F 36 #[.int .i64 f.1, .int .i64 f.2.1, .int .i64 f.2.2] wr
  a : Blk A 40 #[.int .i64 M.1, .int .i64 M.2.1, .int .i64 M.2.2.1, .int .i64 M.2.2.2] wr
  g : Blk G 36 #[.int .i64 g.1, .int .i64 g.2.1, .int .i64 g.2.2] wr
  b : Below w.heap.size w wr
  o : w.heap.size < F ∧ F < A ∧ A < G
/-- The form that a pointer shows. -/
def atF (wr : World) : Value → Fm
  | .pointer (some a) => (intOf ((wr.cell? ⟨a.block, 0, none⟩).getD undef), intOf ((wr.cell? ⟨a.block, 1, none⟩).getD undef), intOf ((wr.cell? ⟨a.block, 2, none⟩).getD undef))
  | _ => (0, 0, 0)
theorem UB.below {w wr w' : World} {F A G : Nat} {f g : Fm} {M : Mt} (h : UB w wr F A G f g M) (hb : Below wr.heap.size wr w') : UB w w' F A G f g M :=
  ⟨h.r.below hb, h.f.below hb, h.a.below hb, h.g.below hb, h.b.trans (hb.mono h.b.size), h.o⟩
theorem UB.alloc {w wr : World} {F A G : Nat} {f g : Fm} {M : Mt} (h : UB w wr F A G f g M) (o : Obj) : UB w (wr.alloc o) F A G f g M :=
  ⟨h.r.alloc o, h.f.alloc o, h.a.alloc o, h.g.alloc o, h.b.alloc (by have := h.b.size; omega) _, h.o⟩
set_option maxRecDepth 100000 in
set_option maxHeartbeats 8000000 in
theorem unFour_any (d t u : Int) (ok : Bool) (w : World) (hp : posB d = true) (h : PFour d t u ok) :
    Calls Try.prog 103 #[.int .i64 d] w fun e w' => (∃ t' u', e = .returned (.tuple #[.agg #[.int .i64 t', .int .i64 u'], .bool ok]) ∧ (ok = true → t' = t ∧ u' = u)) ∧ Below w.heap.size w w' := by
  obtain ⟨d1, d2⟩ := posB_true hp
  have hpf := Lib.hid fun w1 => principalForm_any d w1 hp
  have hgd := prf_gd hp
  obtain ⟨⟨g1, g2, g3⟩, N, hrd, hcy, hg1⟩ := prf_red (prf_ok hp)
  have hg1' : g1 = 1 := hg1
  subst hg1'
  clear hg1
  obtain ⟨_, hG, _, _, _⟩ := hrd.facts hgd ⟨by decide, by decide, by decide, by decide⟩ rfl rfl
  have hC0 := cyB_iff.1 hcy
  obtain ⟨p, hp1, hp2, hp3, hp4⟩ := nbn_first hC0 hG.root hG.r31
  have hred : Hid (∀ w1, Calls Try.prog 75 #[.agg #[.int .i64 1, .int .i64 (d % 2), .int .i64 ((d % 2 - d).tdiv 4)]] w1 fun e w' => e = .returned (.tuple #[.agg #[.int .i64 1, .int .i64 g2, .int .i64 g3], .agg #[.int .i64 N.1, .int .i64 N.2.1, .int .i64 N.2.2.1, .int .i64 N.2.2.2], .bool true]) ∧ Below w1.heap.size w1 w') := Lib.hid fun w1 => by
    refine (cyReduce_any _ _ _ _ _ w1 hgd hp).mono ?_
    rintro e w' ⟨⟨g', N', ok', rfl, h⟩, hB⟩
    obtain ⟨rfl, rfl, rfl⟩ := hrd.same h
    exact ⟨rfl, hB⟩
  go_enter Try.func103, Try.ntmps103
  go_wp2_with (first | (go_at_call 124; refine (hpf.out _).mono ?_; rintro e w' ⟨rfl, hB⟩; obtain ⟨hC, hF⟩ := bcell hB; have hS := hB.size; (try simp at hS); (try have hSl := Nat.lt_of_succ_le hS); (try have hS0 : w.heap.size < w'.heap.size := by omega); (try have hS1 : w.heap.size + 1 < w'.heap.size := by omega); (try have hS2 : w.heap.size + 1 + 1 < w'.heap.size := by omega); (try have hS3 : w.heap.size + 1 + 1 + 1 < w'.heap.size := by omega)))
  have hkr := ((Blk.new w 27 #[.int .i64 0, .int .i64 0]).below hB).alloc (.cells #[.int .i64 1, .int .i64 (d % 2), .int .i64 ((d % 2 - d).tdiv 4)] 36)
  have hkf := Blk.new w' 36 #[.int .i64 1, .int .i64 (d % 2), .int .i64 ((d % 2 - d).tdiv 4)]
  have hkb : Below w.heap.size w (w'.alloc (.cells #[.int .i64 1, .int .i64 (d % 2), .int .i64 ((d % 2 - d).tdiv 4)] 36)) := by repeat (first | with_reducible exact Below.refl _ _ | with_reducible assumption | ((with_reducible refine blA ?_ ?_); (focus (first | omega | (simp <;> omega)))) | (with_reducible refine blD ?_) | (with_reducible refine blN ?_) | ((with_reducible refine blS ?_ ?_); (focus (first | omega | (simp <;> omega)))) | ((with_reducible refine blT (by assumption) ?_ ?_); (focus (first | omega | (simp <;> omega)))))
  have hfb : w.heap.size < w'.heap.size := by omega
  obtain ⟨fb, hfbe⟩ : ∃ fb, w'.heap.size = fb := ⟨_, rfl⟩
  refine (hred.out _).mono ?_
  rintro e1 w1 ⟨rfl, hB1⟩
  rw [hfbe] at hkf hfb ⊢
  have k1r := hkr.below hB1
  have k1f := hkf.below hB1
  have k1b : Below w.heap.size w w1 := hkb.trans (hB1.mono hkb.size)
  obtain ⟨w2, e2, k2, z2, q2⟩ := k1f.set3 (.int .i64 1) (.int .i64 g2) (.int .i64 g3)
  have K2 := Lib.hid k2
  have R2 := Lib.hid (k1r.grown q2 (by simp <;> omega))
  have B2 := Lib.hid (below_grown k1b q2 (by omega) (by have := k1b.size; omega))
  have c1f := k1f.cell
  have f1f := k1f.froz
  have l1f := k1f.lt
  have c2f := k2.cell
  have l2f := k2.lt
  have hFA : fb < w1.heap.size := l1f
  obtain ⟨V, hV, HV⟩ : ∃ V, (w2.alloc (.cells #[.int .i64 1, .int .i64 0, .int .i64 0, .int .i64 1] 40)).alloc (.cells #[.int .i64 1, .int .i64 g2, .int .i64 g3] 36) = V ∧ Hid (UB w V fb w1.heap.size (w1.heap.size + 1) (1, g2, g3) (1, g2, g3) mI) := by
    refine ⟨_, rfl, Lib.hid ⟨(R2.out.alloc _).alloc _, (K2.out.alloc _).alloc _, ?_, ?_, (B2.out.alloc (by have := B2.out.size; omega) _).alloc (by have := B2.out.size; simp <;> omega) _, ⟨hfb, hFA, by omega⟩⟩⟩
    · have := (Blk.new w2 40 #[.int .i64 1, .int .i64 0, .int .i64 0, .int .i64 1]).alloc (.cells #[.int .i64 1, .int .i64 g2, .int .i64 g3] 36)
      rw [z2] at this
      exact this
    · have := Blk.new (w2.alloc (.cells #[.int .i64 1, .int .i64 0, .int .i64 0, .int .i64 1] 40)) 36 #[.int .i64 1, .int .i64 g2, .int .i64 g3]
      simpa [z2] using this
  have Z2 := Lib.hid z2
  clear hB hC hF hS hB1 hkr hkf hkb k1r k1f k1b k2 q2 hfbe hpf hred
  go_wp2_with fail
  try rw [hV]
  obtain ⟨r, hr⟩ : ∃ r, isqrt d = r := ⟨_, rfl⟩
  rw [hr] at hG hC0 hp3 hp4
  obtain ⟨A, hA⟩ : ∃ A, w1.heap.size = A := ⟨_, rfl⟩
  rw [hA] at HV ⊢
  have HG := Lib.hid hG
  have HC := Lib.hid hC0
  have HP := Lib.hid (And.intro hp1 (And.intro hp2 (And.intro hp3 hp4)))
  have HF := Lib.hid h
  have HR := Lib.hid hr
  clear hV Z2 K2 R2 B2 e2 c1f f1f l1f c2f l2f hFA hA hG hC0 hp1 hp2 hp3 hp4 h hr hcy hrd hgd
  go_loopw [7] (fun gv wr => ∃ (n G : Nat), gv = .pointer (some ⟨G, 0, none⟩) ∧ Hid (n < p) ∧ Hid (UB w wr fb A G (1, g2, g3) (nbn r n (1, g2, g3)) (nmn r n (1, g2, g3))) ∧ Hid (mle 1000000000 (nmn r n (1, g2, g3))) ∧ Hid (Gd r d (nbn r n (1, g2, g3)))) (fun gv wr => dst r (1, g2, g3) (nb r (atF wr gv)))
  case atStart =>
    exact ⟨0, A + 1, rfl, Lib.hid (by have := HP.out.1; omega), HV, Lib.hid (show mle 1000000000 mI from ⟨by decide, by decide, by decide, by decide⟩), HG⟩
  case round =>
    clear HV
    obtain ⟨n, G, rfl, hn, hU, hM, hg⟩ := hrel
    obtain ⟨⟨x1, x2, x3⟩, hx⟩ : ∃ x, nbn r n (1, g2, g3) = x := ⟨_, rfl⟩
    obtain ⟨⟨M1, M2, M3, M4⟩, hMM⟩ : ∃ x, nmn r n (1, g2, g3) = x := ⟨_, rfl⟩
    rw [hx] at hU hg
    rw [hMM] at hU hM
    have HX := Lib.hid hx
    have HMM := Lib.hid hMM
    have hmv := Lib.hid fun w1 => cyMove_any r d x1 x2 x3 w1 hg.out
    have hac := Lib.hid fun w1 => foActN_any r d x1 x2 x3 w1 hg.out
    have hmm := mB_mle.1 (nmg_mB hg.out)
    have hml := Lib.hid fun w1 => foMul_wide (M1, M2, M3, M4) (nmg r (x1, x2, x3)) w1 hM.out hmm
    obtain ⟨⟨m1, m2, m3, m4⟩, hm⟩ : ∃ x, nmg r (x1, x2, x3) = x := ⟨_, rfl⟩
    obtain ⟨⟨y1, y2, y3⟩, hy⟩ : ∃ x, nbg r (x1, x2, x3) = x := ⟨_, rfl⟩
    rw [hm] at hmv hac hml
    rw [hy] at hac
    obtain ⟨⟨P1, P2, P3, P4⟩, hP⟩ : ∃ x, mm (M1, M2, M3, M4) (m1, m2, m3, m4) = x := ⟨_, rfl⟩
    rw [hP] at hml
    simp only at hmv hac hml
    have HM := Lib.hid hm
    have HY := Lib.hid hy
    have HPP := Lib.hid hP
    clear hx hMM hmm hm hy hP
    have cg := hU.out.g.cell
    have lg := hU.out.g.lt
    simp only at cg
    have HCX := Lib.hid cg
    go_wp2_with fail
    refine (hmv.out _).mono ?_
    rintro e2 z2 ⟨rfl, hB2⟩
    have hU2 := Lib.hid (hU.out.below hB2)
    clear hU hB2 cg lg hmv
    obtain ⟨z3, ez3, K3, hU3⟩ : ∃ z3, z2.alloc (.cells #[.int .i64 m1, .int .i64 m2, .int .i64 m3, .int .i64 m4] 40) = z3 ∧ Hid (Blk z2.heap.size 40 #[.int .i64 m1, .int .i64 m2, .int .i64 m3, .int .i64 m4] z3) ∧ Hid (UB w z3 fb A G (1, g2, g3) (x1, x2, x3) (M1, M2, M3, M4)) := ⟨_, rfl, Lib.hid (Blk.new _ _ _), Lib.hid (hU2.out.alloc _)⟩
    have hGm : G < z2.heap.size := hU2.out.g.lt
    obtain ⟨mb, hmb⟩ : ∃ mb, z2.heap.size = mb := ⟨_, rfl⟩
    rw [hmb] at K3 hGm
    have c3g := hU3.out.g.cell
    have l3g := hU3.out.g.lt
    have c3a := hU3.out.a.cell
    have l3a := hU3.out.a.lt
    have c3m := K3.out.cell
    have l3m := K3.out.lt
    simp only at c3g c3a
    clear hU2
    go_wp2_with fail
    try rw [ez3]
    refine wp_region_past_tail 6 (by kernel_rfl) (by kernel_rfl) ?_
    simp only [List.take_succ_cons, List.take_zero, List.drop_succ_cons, List.drop_zero]
    repeat (first | go_big_quiet_skip | (go_big_quiet_want; go_big_quiet_op; first | go_big_quiet_on | (apply Exists.intro; refine ⟨fun _ => ?_, ?_⟩; (focus (first | (go_at_call 79; exact past_of (hac.out _)) | (go_at_call 80; exact past_of (hml.out _)))); go_big_quiet_on)))
    refine wpQuiet_nil ?_
    intro w3 hw'
    have hB3 := past_below hw'
    clear hw'
    obtain ⟨hC3, hF3⟩ := bcell hB3
    have hS3 := hB3.size
    (try simp at hS3)
    (try have hS3_w0 : w.heap.size < w3.heap.size := by omega)
    (try have hS3_w1 : w.heap.size + 1 < w3.heap.size := by omega)
    (try have hS3_w2 : w.heap.size + 1 + 1 < w3.heap.size := by omega)
    (try have hS3_w3 : w.heap.size + 1 + 1 + 1 < w3.heap.size := by omega)
    (try have hS3_w4 : w.heap.size + 1 + 1 + 1 + 1 < w3.heap.size := by omega)
    (try have hS3_1 : w1.heap.size < w3.heap.size := by omega)
    (try have hS3_2 : w2.heap.size < w3.heap.size := by omega)
    (try have hS3_1' : w1.heap.size + 1 < w3.heap.size := by omega)
    (try have hS3_2' : w2.heap.size + 1 < w3.heap.size := by omega)
    have hU4 := hU3.out.below hB3
    have c4g := hU4.g.cell
    have f4g := hU4.g.froz
    have c4a := hU4.a.cell
    have f4a := hU4.a.froz
    have l4g := hU4.g.lt
    have l4a := hU4.a.lt
    have ho4 := hU4.o
    obtain ⟨z5, ez5, K5, zz5, q5⟩ := hU4.g.set3 (.int .i64 y1) (.int .i64 y2) (.int .i64 y3)
    have a5 := hU4.a.grown q5 (by simp <;> omega)
    have c5a := a5.cell
    have f5a := a5.froz
    have l5a := a5.lt
    obtain ⟨z6, ez6, K6, zz6, q6⟩ := a5.set4 (.int .i64 P1) (.int .i64 P2) (.int .i64 P3) (.int .i64 P4)
    have hU6 : Hid (UB w z6 fb A G (1, g2, g3) (y1, y2, y3) (P1, P2, P3, P4)) := Lib.hid ⟨(hU4.r.grown q5 (by simp <;> omega)).grown q6 (by simp <;> omega), (hU4.f.grown q5 (by simp <;> omega)).grown q6 (by simp <;> omega), K6, K5.grown q6 (by simp <;> omega), below_grown (below_grown hU4.b q5 (by omega) (by have := hU4.b.size; omega)) q6 (by omega) (by have := hU4.b.size; omega), hU4.o⟩
    simp only at c4g c4a c5a
    clear hB3 hC3 hF3 hU3 hU4 K3 K5 K6 q5 q6 zz5 zz6 a5 c3g l3g c3a l3a c3m l3m ez3 hac hml
    have c6a := hU6.out.a.cell
    have l6a := hU6.out.a.lt
    simp only at c6a
    go_wp2_with fail
    obtain ⟨hs1, hs2, hs3, hs4⟩ := next_step HC.out HG.out HX.out HMM.out HM.out HY.out HPP.out
    have hgy := hg.out.next.1
    rw [HY.out] at hgy
    have hJ : J64 P1 ∧ J64 P2 ∧ J64 P3 ∧ J64 P4 := by
      have hm6 := mB_mle.1 (nmg_mB hg.out)
      rw [HM.out] at hm6
      obtain ⟨k1, k2, k3, k4⟩ := hm6
      obtain ⟨j1, j2, j3, j4⟩ := hM.out
      have e := HPP.out
      simp only [mm, Prod.mk.injEq] at e k1 k2 k3 k4 j1 j2 j3 j4
      obtain ⟨e1, e2, e3, e4⟩ := e
      have z1 := mmw_bd j1 k1 j2 k3
      have z2 := mmw_bd j1 k2 j2 k4
      have z3 := mmw_bd j3 k1 j4 k3
      have z4 := mmw_bd j3 k2 j4 k4
      rw [e1] at z1
      rw [e2] at z2
      rw [e3] at z3
      rw [e4] at z4
      unfold Bd at z1 z2 z3 z4
      unfold J64
      omega
    obtain ⟨q1, q2, q3, q4⟩ := hJ
    have ha1 := Lib.hid fun w0 => l1Abs_any P1 w0 q1
    have ha2 := Lib.hid fun w0 => l1Abs_any P2 w0 q2
    have ha3 := Lib.hid fun w0 => l1Abs_any P3 w0 q3
    have ha4 := Lib.hid fun w0 => l1Abs_any P4 w0 q4
    have HNX := Lib.hid (And.intro hs1 hs2)
    have HNB := Lib.hid hs4
    have HGY := Lib.hid hgy
    have HSTOP : Hid (¬ mle 1000000000 (P1, P2, P3, P4) → ok = false) := Lib.hid (by
      intro hb
      have h1 := stop_big HC.out HG.out.root rfl HG.out.r31 (n := n + 1) (fun k a b => HP.out.2.2.2 k a (by have := hn.out; omega)) (by rw [hs2]; exact hb)
      rw [HG.out.ds] at h1
      rcases HF.out with ⟨_, hL, hS⟩ | ⟨h, _⟩
      · exact absurd hS (h1 _ _ hL.1)
      · exact h)
    clear hs1 hs2 hs3 hs4 hgy q1 q2 q3 q4 c4g f4g c4a f4a l4g l4a ez5 c5a f5a l5a ez6 hS3 ho4
    have hcase : (1000000000 < (P1.natAbs : Int)) ∨ (¬ 1000000000 < (P1.natAbs : Int) ∧ 1000000000 < (P2.natAbs : Int)) ∨ (¬ 1000000000 < (P1.natAbs : Int) ∧ ¬ 1000000000 < (P2.natAbs : Int) ∧ 1000000000 < (P3.natAbs : Int)) ∨ (¬ 1000000000 < (P1.natAbs : Int) ∧ ¬ 1000000000 < (P2.natAbs : Int) ∧ ¬ 1000000000 < (P3.natAbs : Int) ∧ 1000000000 < (P4.natAbs : Int)) ∨ (¬ 1000000000 < (P1.natAbs : Int) ∧ ¬ 1000000000 < (P2.natAbs : Int) ∧ ¬ 1000000000 < (P3.natAbs : Int) ∧ ¬ 1000000000 < (P4.natAbs : Int)) := by omega
    rcases hcase with b1 | ⟨b1, b2⟩ | ⟨b1, b2, b3⟩ | ⟨b1, b2, b3, b4⟩ | ⟨b1, b2, b3, b4⟩
    · have hno := HSTOP.out (fun h => by obtain ⟨h1, h2, h3, h4⟩ := h; simp only at h1 h2 h3 h4; omega)
      subst hno
      have d1 : decide ((P1.natAbs : Int) > 1000000000) = true := decide_eq_true (by omega)
      clear b1
      have c6r := hU6.out.r.cell
      have f6r := hU6.out.r.froz
      have l6r := hU6.out.r.lt
      obtain ⟨z7, e7, K7, zz7, q7⟩ := hU6.out.r.set2 (.int .i64 0) (.int .i64 0)
      have c7 := K7.cell
      have HB7 := Lib.hid (below_grown hU6.out.b q7 (Nat.le_refl _) hU6.out.b.size)
      clear K7 zz7 q7
      go_wp2_with (first | (go_at_call 107; refine (ha1.out _).mono ?_; rintro e w' ⟨rfl, rfl⟩) | (go_at_call 107; refine (ha2.out _).mono ?_; rintro e w' ⟨rfl, rfl⟩) | (go_at_call 107; refine (ha3.out _).mono ?_; rintro e w' ⟨rfl, rfl⟩) | (go_at_call 107; refine (ha4.out _).mono ?_; rintro e w' ⟨rfl, rfl⟩))
      refine bodyPost_ret (v := .tuple #[.agg #[.int .i64 0, .int .i64 0], .bool false]) (by go_light; simp [results, Try.results103, go_sem, *]) rfl ⟨⟨0, 0, rfl, fun h => by cases h⟩, HB7.out⟩
    · have hno := HSTOP.out (fun h => by obtain ⟨h1, h2, h3, h4⟩ := h; simp only at h1 h2 h3 h4; omega)
      subst hno
      have d1 : decide ((P1.natAbs : Int) > 1000000000) = false := decide_eq_false (by omega)
      have d2 : decide ((P2.natAbs : Int) > 1000000000) = true := decide_eq_true (by omega)
      clear b1 b2
      have c6r := hU6.out.r.cell
      have f6r := hU6.out.r.froz
      have l6r := hU6.out.r.lt
      obtain ⟨z7, e7, K7, zz7, q7⟩ := hU6.out.r.set2 (.int .i64 0) (.int .i64 0)
      have c7 := K7.cell
      have HB7 := Lib.hid (below_grown hU6.out.b q7 (Nat.le_refl _) hU6.out.b.size)
      clear K7 zz7 q7
      go_wp2_with (first | (go_at_call 107; refine (ha1.out _).mono ?_; rintro e w' ⟨rfl, rfl⟩) | (go_at_call 107; refine (ha2.out _).mono ?_; rintro e w' ⟨rfl, rfl⟩) | (go_at_call 107; refine (ha3.out _).mono ?_; rintro e w' ⟨rfl, rfl⟩) | (go_at_call 107; refine (ha4.out _).mono ?_; rintro e w' ⟨rfl, rfl⟩))
      refine bodyPost_ret (v := .tuple #[.agg #[.int .i64 0, .int .i64 0], .bool false]) (by go_light; simp [results, Try.results103, go_sem, *]) rfl ⟨⟨0, 0, rfl, fun h => by cases h⟩, HB7.out⟩
    · have hno := HSTOP.out (fun h => by obtain ⟨h1, h2, h3, h4⟩ := h; simp only at h1 h2 h3 h4; omega)
      subst hno
      have d1 : decide ((P1.natAbs : Int) > 1000000000) = false := decide_eq_false (by omega)
      have d2 : decide ((P2.natAbs : Int) > 1000000000) = false := decide_eq_false (by omega)
      have d3 : decide ((P3.natAbs : Int) > 1000000000) = true := decide_eq_true (by omega)
      clear b1 b2 b3
      have c6r := hU6.out.r.cell
      have f6r := hU6.out.r.froz
      have l6r := hU6.out.r.lt
      obtain ⟨z7, e7, K7, zz7, q7⟩ := hU6.out.r.set2 (.int .i64 0) (.int .i64 0)
      have c7 := K7.cell
      have HB7 := Lib.hid (below_grown hU6.out.b q7 (Nat.le_refl _) hU6.out.b.size)
      clear K7 zz7 q7
      go_wp2_with (first | (go_at_call 107; refine (ha1.out _).mono ?_; rintro e w' ⟨rfl, rfl⟩) | (go_at_call 107; refine (ha2.out _).mono ?_; rintro e w' ⟨rfl, rfl⟩) | (go_at_call 107; refine (ha3.out _).mono ?_; rintro e w' ⟨rfl, rfl⟩) | (go_at_call 107; refine (ha4.out _).mono ?_; rintro e w' ⟨rfl, rfl⟩))
      refine bodyPost_ret (v := .tuple #[.agg #[.int .i64 0, .int .i64 0], .bool false]) (by go_light; simp [results, Try.results103, go_sem, *]) rfl ⟨⟨0, 0, rfl, fun h => by cases h⟩, HB7.out⟩
    · have hno := HSTOP.out (fun h => by obtain ⟨h1, h2, h3, h4⟩ := h; simp only at h1 h2 h3 h4; omega)
      subst hno
      have d1 : decide ((P1.natAbs : Int) > 1000000000) = false := decide_eq_false (by omega)
      have d2 : decide ((P2.natAbs : Int) > 1000000000) = false := decide_eq_false (by omega)
      have d3 : decide ((P3.natAbs : Int) > 1000000000) = false := decide_eq_false (by omega)
      have d4 : decide ((P4.natAbs : Int) > 1000000000) = true := decide_eq_true (by omega)
      clear b1 b2 b3 b4
      have c6r := hU6.out.r.cell
      have f6r := hU6.out.r.froz
      have l6r := hU6.out.r.lt
      obtain ⟨z7, e7, K7, zz7, q7⟩ := hU6.out.r.set2 (.int .i64 0) (.int .i64 0)
      have c7 := K7.cell
      have HB7 := Lib.hid (below_grown hU6.out.b q7 (Nat.le_refl _) hU6.out.b.size)
      clear K7 zz7 q7
      go_wp2_with (first | (go_at_call 107; refine (ha1.out _).mono ?_; rintro e w' ⟨rfl, rfl⟩) | (go_at_call 107; refine (ha2.out _).mono ?_; rintro e w' ⟨rfl, rfl⟩) | (go_at_call 107; refine (ha3.out _).mono ?_; rintro e w' ⟨rfl, rfl⟩) | (go_at_call 107; refine (ha4.out _).mono ?_; rintro e w' ⟨rfl, rfl⟩))
      refine bodyPost_ret (v := .tuple #[.agg #[.int .i64 0, .int .i64 0], .bool false]) (by go_light; simp [results, Try.results103, go_sem, *]) rfl ⟨⟨0, 0, rfl, fun h => by cases h⟩, HB7.out⟩
    · have HML := Lib.hid (show mle 1000000000 (P1, P2, P3, P4) from ⟨by simp only; omega, by simp only; omega, by simp only; omega, by simp only; omega⟩)
      have d1 : decide ((P1.natAbs : Int) > 1000000000) = false := decide_eq_false (by omega)
      have d2 : decide ((P2.natAbs : Int) > 1000000000) = false := decide_eq_false (by omega)
      have d3 : decide ((P3.natAbs : Int) > 1000000000) = false := decide_eq_false (by omega)
      have d4 : decide ((P4.natAbs : Int) > 1000000000) = false := decide_eq_false (by omega)
      clear HSTOP
      have c6g := hU6.out.g.cell
      have l6g := hU6.out.g.lt
      have c6f := hU6.out.f.cell
      have l6f := hU6.out.f.lt
      simp only at c6g c6f
      by_cases hyf : ((y1, y2, y3) : Fm) = (1, g2, g3)
      · simp only [Prod.mk.injEq] at hyf
        obtain ⟨e1, e2, e3⟩ := hyf
        subst y1 y2 y3
        have hnp : n + 1 = p := by
          obtain ⟨h1, h2, h3, h4⟩ := HP.out
          have h5 := hn.out
          rcases (show n + 1 < p ∨ n + 1 = p by omega) with h | h
          · exact absurd HNX.out.1 (h4 _ (by omega) h)
          · exact h
        have HL : Hid (Least d ((P1 + P4).natAbs : Int) (P3.natAbs : Int)) := Lib.hid (by
          obtain ⟨h1, h2, h3, h4⟩ := HP.out
          have h := come_back HC.out HG.out.root rfl (n := n + 1) (by omega) (fun k a b => h4 k a (by omega)) HNX.out.1
          rw [HNX.out.2, HG.out.ds] at h
          exact h)
        have HOK : Hid (smallB ((P1 + P4).natAbs : Int) (P3.natAbs : Int) = ok ∧ (ok = true → ((P1 + P4).natAbs : Int) = t ∧ (P3.natAbs : Int) = u)) := Lib.hid (by
          have hl := HL.out
          have hs := smallB_pos hl.1.1 hl.1.2.1
          have hpf : PFour d (if smallB ((P1 + P4).natAbs : Int) (P3.natAbs : Int) then ((P1 + P4).natAbs : Int) else 0) (if smallB ((P1 + P4).natAbs : Int) (P3.natAbs : Int) then (P3.natAbs : Int) else 0) (smallB ((P1 + P4).natAbs : Int) (P3.natAbs : Int)) := by
            cases hb : smallB ((P1 + P4).natAbs : Int) (P3.natAbs : Int) with
            | true => exact .inl ⟨rfl, hl, hs.1 hb⟩
            | false =>
              refine .inr ⟨rfl, rfl, rfl, fun t' u' h1 h2 => ?_⟩
              have h3 := hl.2 t' u' h1
              have h4 := hl.1.mono (by omega) h1 h3
              have h5 := hs.2 ⟨by have := h2.1; omega, by have := h2.2; omega⟩
              rw [hb] at h5
              cases h5
          obtain ⟨e1, e2, e3⟩ := hpf.unique HF.out
          refine ⟨e3, fun h => ?_⟩
          rw [h] at e3
          rw [if_pos e3] at e1 e2
          exact ⟨e1, e2⟩)
        have q14 : Bd 2000000000 (P1 + P4) := ⟨by omega, by omega⟩
        have hJ14 : J64 (P1 + P4) := ⟨by have := q14.1; omega, by have := q14.2; omega⟩
        have hJ3 : J64 P3 := ⟨by omega, by omega⟩
        have hw14 : wrap64 (P1 + P4) = P1 + P4 := by unfold Bd at q14; unfold wrap64; omega
        have hw3' : wrap64 P3 = P3 := by unfold wrap64; omega
        have hw3 : wrap64 (P3.tdiv 1) = P3 := by rw [Int.tdiv_one]; exact hw3'
        have ha5 := Lib.hid fun w0 => l1Abs_any (P1 + P4) w0 hJ14
        have ha6 := Lib.hid fun w0 => l1Abs_any P3 w0 hJ3
        clear HL HF HML hJ14 hJ3 q14 HG HNX HNB HGY HCX hg hn HX HMM HM HY HPP hM hnp HP HC HR
        go_wp2_with (first | (go_at_call 107; refine (ha1.out _).mono ?_; rintro e w' ⟨rfl, rfl⟩) | (go_at_call 107; refine (ha2.out _).mono ?_; rintro e w' ⟨rfl, rfl⟩) | (go_at_call 107; refine (ha3.out _).mono ?_; rintro e w' ⟨rfl, rfl⟩) | (go_at_call 107; refine (ha4.out _).mono ?_; rintro e w' ⟨rfl, rfl⟩))
        clear d1 d2 d3 d4 b1 b2 b3 b4 ha1 ha2 ha3 ha4
        refine region_mixed 13 (by kernel_rfl) (by kernel_rfl) (by kernel_rfl) ?_
        apply Exists.intro
        refine ⟨fun w0 hw0 => ?_, ?_⟩
        · obtain ⟨hC0, hF0⟩ := bcell hw0
          have hS0 := hw0.size
          (try simp at hS0)
          (try have hS0_w0 : w.heap.size < w0.heap.size := by omega)
          (try have hS0_w1 : w.heap.size + 1 < w0.heap.size := by omega)
          (try have hS0_w2 : w.heap.size + 1 + 1 < w0.heap.size := by omega)
          (try have hS0_w3 : w.heap.size + 1 + 1 + 1 < w0.heap.size := by omega)
          (try have hS0_w4 : w.heap.size + 1 + 1 + 1 + 1 < w0.heap.size := by omega)
          (try have hL0_w0 : w.heap.size ≤ w0.heap.size := by omega)
          (try have hL0_w1 : w.heap.size + 1 ≤ w0.heap.size := by omega)
          (try have hL0_w2 : w.heap.size + 1 + 1 ≤ w0.heap.size := by omega)
          (try have hL0_w3 : w.heap.size + 1 + 1 + 1 ≤ w0.heap.size := by omega)
          (try have hL0_w : w.heap.size ≤ w0.heap.size + 1 := by omega)
          (try have hM0_1 : w.heap.size < w0.heap.size + 1 := by omega)
          (try have hM0_2 : w.heap.size < w0.heap.size + 1 + 1 := by omega)
          (try have hM0_3 : w.heap.size < w0.heap.size + 1 + 1 + 1 := by omega)
          have hA0 : A < w0.heap.size := (by omega); have hf0 : fb < w0.heap.size := (by omega)
          simp only [List.take_succ_cons, List.take_zero]
          repeat (first | go_big_quiet_skip | (go_big_quiet_want; go_big_quiet_op; first | go_big_quiet_on | (apply Exists.intro; refine ⟨fun _ => ?_, ?_⟩; (focus (first | (go_at_call 107; exact past_same (ha5.out _)) | (go_at_call 107; exact past_same (ha6.out _)))); go_big_quiet_on)))
          refine wpQuiet_nil ?_
          rfl
        intro W hW hWz
        simp only [List.drop_succ_cons, List.drop_zero]
        refine eff_new #[.int .i64 0, .int .i64 0] 27 [.int .i64 ((P1 + P4).natAbs : Int), .int .i64 (P3.natAbs : Int)] rfl rfl rfl rfl (fun _ => by simp [go_sem]) (cl_refl _) (fun wa wb hb => ?_) (fun w1 hV1 => ?_)
        · obtain ⟨hc, hf⟩ := bnew hb
          refine ⟨.skip, ?_, Or.inl rfl⟩
          simp [go_sem, setAll, Act.put, hc, hf]
        have hB1 := hW.trans (hV1.mono hW.size)
        obtain ⟨hC1, hF1⟩ := bcell hB1
        have hS1 := hB1.size
        (try simp at hS1)
        (try have hS1_w0 : w.heap.size < w1.heap.size := by omega)
        (try have hS1_w1 : w.heap.size + 1 < w1.heap.size := by omega)
        (try have hS1_w2 : w.heap.size + 1 + 1 < w1.heap.size := by omega)
        (try have hS1_w3 : w.heap.size + 1 + 1 + 1 < w1.heap.size := by omega)
        (try have hS1_w4 : w.heap.size + 1 + 1 + 1 + 1 < w1.heap.size := by omega)
        (try have hL1_w0 : w.heap.size ≤ w1.heap.size := by omega)
        (try have hL1_w1 : w.heap.size + 1 ≤ w1.heap.size := by omega)
        (try have hL1_w2 : w.heap.size + 1 + 1 ≤ w1.heap.size := by omega)
        (try have hL1_w3 : w.heap.size + 1 + 1 + 1 ≤ w1.heap.size := by omega)
        (try have hL1_w : w.heap.size ≤ w1.heap.size + 1 := by omega)
        (try have hM1_1 : w.heap.size < w1.heap.size + 1 := by omega)
        (try have hM1_2 : w.heap.size < w1.heap.size + 1 + 1 := by omega)
        (try have hM1_3 : w.heap.size < w1.heap.size + 1 + 1 + 1 := by omega)
        have hK : Cl W (w1.alloc (.cells #[.int .i64 ((P1 + P4).natAbs : Int), .int .i64 (P3.natAbs : Int)] 27)) := (cl_of hV1).alloc _
        clear hK
        intro w2 hV2
        have hB2 := past_below hV2
        clear hV1 hV2 hW hWz
        obtain ⟨hC2, hF2⟩ := bcell hB2
        have hS2 := hB2.size
        (try simp at hS2)
        (try have hS2_w0 : w.heap.size < w2.heap.size := by omega)
        (try have hS2_w1 : w.heap.size + 1 < w2.heap.size := by omega)
        (try have hS2_w2 : w.heap.size + 1 + 1 < w2.heap.size := by omega)
        (try have hS2_w3 : w.heap.size + 1 + 1 + 1 < w2.heap.size := by omega)
        (try have hS2_w4 : w.heap.size + 1 + 1 + 1 + 1 < w2.heap.size := by omega)
        (try have hL2_w0 : w.heap.size ≤ w2.heap.size := by omega)
        (try have hL2_w1 : w.heap.size + 1 ≤ w2.heap.size := by omega)
        (try have hL2_w2 : w.heap.size + 1 + 1 ≤ w2.heap.size := by omega)
        (try have hL2_w3 : w.heap.size + 1 + 1 + 1 ≤ w2.heap.size := by omega)
        (try have hL2_w : w.heap.size ≤ w2.heap.size + 1 := by omega)
        (try have hM2_1 : w.heap.size < w2.heap.size + 1 := by omega)
        (try have hM2_2 : w.heap.size < w2.heap.size + 1 + 1 := by omega)
        (try have hM2_3 : w.heap.size < w2.heap.size + 1 + 1 + 1 := by omega)
        (try have hN2_1_00 : w1.heap.size < w2.heap.size := by omega)
        (try have hN2_1_01 : w1.heap.size < w2.heap.size + 1 := by omega)
        (try have hN2_1_02 : w1.heap.size < w2.heap.size + 1 + 1 := by omega)
        (try have hN2_1_10 : w1.heap.size + 1 < w2.heap.size := by omega)
        (try have hN2_1_11 : w1.heap.size + 1 < w2.heap.size + 1 := by omega)
        (try have hN2_1_12 : w1.heap.size + 1 < w2.heap.size + 1 + 1 := by omega)
        (try have hN2_1_20 : w1.heap.size + 1 + 1 < w2.heap.size := by omega)
        (try have hN2_1_21 : w1.heap.size + 1 + 1 < w2.heap.size + 1 := by omega)
        (try have hN2_1_22 : w1.heap.size + 1 + 1 < w2.heap.size + 1 + 1 := by omega)
        (try have hL2_1 : w1.heap.size ≤ w2.heap.size := by omega)
        (try have hS2_1 : w1.heap.size < w2.heap.size := by omega)
        (try have hS2_1' : w1.heap.size + 1 < w2.heap.size := by omega)
        simp only [Act.put, Act.eval, List.setIfInBounds_toArray, List.set_cons_zero, List.set_cons_succ]
        have hU9 := ((hU6.out.below hB1).alloc (.cells #[.int .i64 ((P1 + P4).natAbs : Int), .int .i64 (P3.natAbs : Int)] 27)).below hB2
        have K9 := (Blk.new w1 27 #[.int .i64 ((P1 + P4).natAbs : Int), .int .i64 (P3.natAbs : Int)]).below hB2
        obtain ⟨X, hX⟩ : ∃ X, ((P1 + P4).natAbs : Int) = X := ⟨_, rfl⟩
        obtain ⟨Y, hY⟩ : ∃ Y, (P3.natAbs : Int) = Y := ⟨_, rfl⟩
        obtain ⟨xb, hxb⟩ : ∃ xb, w1.heap.size = xb := ⟨_, rfl⟩
        rw [hX, hY] at K9 HOK
        rw [hxb] at K9
        have hxw : w.heap.size < xb := by have := hU9.o; have := hU6.out.g.lt; have := hB1.size; omega
        have hsm := Lib.hid fun w0 => unSmall_any X Y w0
        rw [HOK.out.1] at hsm
        have HR9 := Lib.hid hU9.r
        have HB9 := Lib.hid hU9.b
        have HK9 := Lib.hid K9
        clear hU6 hU9 c6a l6a c6g l6g c6f l6f hB1 hB2 ha5 ha6 hw14 hw3 hw3'
        try clear hC1
        try clear hF1
        try clear hC2
        try clear hF2
        have c9 := HK9.out.cell
        have l9 := HK9.out.lt
        have c9r := HR9.out.cell
        have f9r := HR9.out.froz
        have l9r := HR9.out.lt
        rw [hX, hY, hxb]
        go_wp2_with fail
        refine wp_region_past_tail 3 (by kernel_rfl) (by kernel_rfl) ?_
        simp only [List.take_succ_cons, List.take_zero, List.drop_succ_cons, List.drop_zero]
        repeat (first | go_big_quiet_skip | (go_big_quiet_want; go_big_quiet_op; first | go_big_quiet_on | (apply Exists.intro; refine ⟨fun _ => ?_, ?_⟩; (focus (first | (go_at_call 61; exact past_of (hsm.out _)))); go_big_quiet_on)))
        refine wpQuiet_nil ?_
        intro w4 hw'
        have hB4 := past_below hw'
        clear hw'
        obtain ⟨hC4, hF4⟩ := bcell hB4
        have hS4 := hB4.size
        (try simp at hS4)
        (try have hS4_w0 : w.heap.size < w4.heap.size := by omega)
        (try have hS4_w1 : w.heap.size + 1 < w4.heap.size := by omega)
        (try have hS4_w2 : w.heap.size + 1 + 1 < w4.heap.size := by omega)
        (try have hS4_w3 : w.heap.size + 1 + 1 + 1 < w4.heap.size := by omega)
        (try have hS4_w4 : w.heap.size + 1 + 1 + 1 + 1 < w4.heap.size := by omega)
        (try have hS4_1 : w1.heap.size < w4.heap.size := by omega)
        (try have hS4_2 : w2.heap.size < w4.heap.size := by omega)
        (try have hS4_3 : w3.heap.size < w4.heap.size := by omega)
        (try have hS4_1' : w1.heap.size + 1 < w4.heap.size := by omega)
        (try have hS4_2' : w2.heap.size + 1 < w4.heap.size := by omega)
        (try have hS4_3' : w3.heap.size + 1 < w4.heap.size := by omega)
        have k10 := HR9.out.below hB4
        have b10 := HB9.out.trans (hB4.mono HB9.out.size)
        have c10 := k10.cell
        have f10 := k10.froz
        have l10 := k10.lt
        obtain ⟨w11, e11, k11, z11, g11⟩ := k10.set2 (.int .i64 X) (.int .i64 Y)
        have c11 := k11.cell
        have HB11 := Lib.hid (below_grown b10 g11 (Nat.le_refl _) b10.size)
        clear k10 b10 hB4 hC4 hF4 k11 z11 g11 HB9 HR9 HK9 c9 l9 c9r f9r l9r
        go_wp2_with fail
        refine bodyPost_ret (v := .tuple #[.agg #[.int .i64 X, .int .i64 Y], .bool ok]) (by go_light; simp [results, Try.results103, go_sem, *]) rfl ⟨⟨X, Y, rfl, HOK.out.2⟩, HB11.out⟩
      clear b1 b2 b3 b4
      have split3 : ¬ y1 = 1 ∨ (y1 = 1 ∧ ¬ y2 = g2) ∨ (y1 = 1 ∧ y2 = g2 ∧ ¬ y3 = g3) := by
        by_cases e1 : y1 = 1
        · by_cases e2 : y2 = g2
          · exact .inr (.inr ⟨e1, e2, fun e3 => hyf (by rw [e1, e2, e3])⟩)
          · exact .inr (.inl ⟨e1, e2⟩)
        · exact .inl e1
      have HLT : Hid (n + 1 < p ∧ dst r (1, g2, g3) (nb r (y1, y2, y3)) < dst r (1, g2, g3) (y1, y2, y3)) := Lib.hid (by
        obtain ⟨h1, h2, h3, h4⟩ := HP.out
        have h5 := hn.out
        have h6 := HNX.out.1
        have h7 : n + 1 < p := by
          rcases (show n + 1 < p ∨ n + 1 = p by omega) with h | h
          · exact h
          · rw [h, h3] at h6
            exact absurd h6.symm hyf
        refine ⟨h7, (dst_less (i := p - (n + 1)) ?_ (by omega) hyf).1⟩
        rw [← h6, ← nbn_add, show n + 1 + (p - (n + 1)) = p by omega, h3])
      clear hyf HF
      rcases split3 with e1 | ⟨e1, e2⟩ | ⟨e1, e2, e3⟩
      · go_wp2_with (first | (go_at_call 107; refine (ha1.out _).mono ?_; rintro e w' ⟨rfl, rfl⟩) | (go_at_call 107; refine (ha2.out _).mono ?_; rintro e w' ⟨rfl, rfl⟩) | (go_at_call 107; refine (ha3.out _).mono ?_; rintro e w' ⟨rfl, rfl⟩) | (go_at_call 107; refine (ha4.out _).mono ?_; rintro e w' ⟨rfl, rfl⟩))

        have hU7 := hU6.out.alloc (.cells #[.int .i64 y1, .int .i64 y2, .int .i64 y3] 36)
        have K7 := Blk.new z6 36 #[.int .i64 y1, .int .i64 y2, .int .i64 y3]
        have hG7 := hU6.out.o
        have hG8 := hU6.out.g.lt
        have HU8 : Hid (UB w (z6.alloc (.cells #[.int .i64 y1, .int .i64 y2, .int .i64 y3] 36)) fb A z6.heap.size (1, g2, g3) (y1, y2, y3) (P1, P2, P3, P4)) := Lib.hid ⟨hU7.r, hU7.f, hU7.a, K7, hU7.b, ⟨hG7.1, hG7.2.1, by omega⟩⟩
        clear hU7 K7 hG7 hG8 hU6
        go_roundw
        case rel =>
          go_light
          exact ⟨n + 1, z6.heap.size, rfl, Lib.hid HLT.out.1, by rw [HNX.out.1, HNX.out.2]; exact HU8, by rw [HNX.out.2]; exact HML, by rw [HNX.out.1]; exact HGY⟩
        case measure =>
          have h0 := HCX.out
          have h1 := HLT.out.2
          have h2 := HU8.out.g.cell
          have h3 := HNB.out
          simp only at h2
          simp [atF, intOf, h0, h2, h3]
          exact h1
      · subst e1
        go_wp2_with (first | (go_at_call 107; refine (ha1.out _).mono ?_; rintro e w' ⟨rfl, rfl⟩) | (go_at_call 107; refine (ha2.out _).mono ?_; rintro e w' ⟨rfl, rfl⟩) | (go_at_call 107; refine (ha3.out _).mono ?_; rintro e w' ⟨rfl, rfl⟩) | (go_at_call 107; refine (ha4.out _).mono ?_; rintro e w' ⟨rfl, rfl⟩))

        have hU7 := hU6.out.alloc (.cells #[.int .i64 1, .int .i64 y2, .int .i64 y3] 36)
        have K7 := Blk.new z6 36 #[.int .i64 1, .int .i64 y2, .int .i64 y3]
        have hG7 := hU6.out.o
        have hG8 := hU6.out.g.lt
        have HU8 : Hid (UB w (z6.alloc (.cells #[.int .i64 1, .int .i64 y2, .int .i64 y3] 36)) fb A z6.heap.size (1, g2, g3) (1, y2, y3) (P1, P2, P3, P4)) := Lib.hid ⟨hU7.r, hU7.f, hU7.a, K7, hU7.b, ⟨hG7.1, hG7.2.1, by omega⟩⟩
        clear hU7 K7 hG7 hG8 hU6
        go_roundw
        case rel =>
          go_light
          exact ⟨n + 1, z6.heap.size, rfl, Lib.hid HLT.out.1, by rw [HNX.out.1, HNX.out.2]; exact HU8, by rw [HNX.out.2]; exact HML, by rw [HNX.out.1]; exact HGY⟩
        case measure =>
          have h0 := HCX.out
          have h1 := HLT.out.2
          have h2 := HU8.out.g.cell
          have h3 := HNB.out
          simp only at h2
          simp [atF, intOf, h0, h2, h3]
          exact h1
      · subst e1
        subst y2
        go_wp2_with (first | (go_at_call 107; refine (ha1.out _).mono ?_; rintro e w' ⟨rfl, rfl⟩) | (go_at_call 107; refine (ha2.out _).mono ?_; rintro e w' ⟨rfl, rfl⟩) | (go_at_call 107; refine (ha3.out _).mono ?_; rintro e w' ⟨rfl, rfl⟩) | (go_at_call 107; refine (ha4.out _).mono ?_; rintro e w' ⟨rfl, rfl⟩))

        have hU7 := hU6.out.alloc (.cells #[.int .i64 1, .int .i64 g2, .int .i64 y3] 36)
        have K7 := Blk.new z6 36 #[.int .i64 1, .int .i64 g2, .int .i64 y3]
        have hG7 := hU6.out.o
        have hG8 := hU6.out.g.lt
        have HU8 : Hid (UB w (z6.alloc (.cells #[.int .i64 1, .int .i64 g2, .int .i64 y3] 36)) fb A z6.heap.size (1, g2, g3) (1, g2, y3) (P1, P2, P3, P4)) := Lib.hid ⟨hU7.r, hU7.f, hU7.a, K7, hU7.b, ⟨hG7.1, hG7.2.1, by omega⟩⟩
        clear hU7 K7 hG7 hG8 hU6
        go_roundw
        case rel =>
          go_light
          exact ⟨n + 1, z6.heap.size, rfl, Lib.hid HLT.out.1, by rw [HNX.out.1, HNX.out.2]; exact HU8, by rw [HNX.out.2]; exact HML, by rw [HNX.out.1]; exact HGY⟩
        case measure =>
          have h0 := HCX.out
          have h1 := HLT.out.2
          have h2 := HU8.out.g.cell
          have h3 := HNB.out
          simp only at h2
          simp [atF, intOf, h0, h2, h3]
          exact h1
end Go.Proofs.Ytemnkfigjpphgaa
