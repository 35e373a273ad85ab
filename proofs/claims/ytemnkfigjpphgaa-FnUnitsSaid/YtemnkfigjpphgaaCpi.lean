/-
  The program's product of the steps around the cycle. (Printed by mkcpi.py.)
-/
import Derived.Test.YtemnkfigjpphgaaCps
import Derived.Deep.CutRange
namespace Go.Proofs.Ytemnkfigjpphgaa
open Go.RowKit
attribute [local simp, local go_sem] past_cell past_frozen past_tape
/-- How many rounds are left, at most. -/
def msI (r : Int) (f : Fm) (gv fv : Value) (wr : World) : Nat := match fv with
  | .bool true => 3000
  | _ => dst r f (atF wr gv)
set_option maxRecDepth 100000 in
set_option maxHeartbeats 16000000 in
theorem implCycleProduct_any (a b c m1 m2 m3 m4 : Int) (ok : Bool) (w : World) (h : CPv (a, b, c) (m1, m2, m3, m4) ok) :
    Calls Try.prog 33 #[.agg #[.int .i64 a, .int .i64 b, .int .i64 c]] w fun en w' => en = .returned (.tuple #[.agg #[.int .i64 m1, .int .i64 m2, .int .i64 m3, .int .i64 m4], .bool ok]) ∧ Below w.heap.size w w' := by
  have hgood : Hid (∀ w0, Calls Try.prog 87 #[.agg #[.int .i64 a, .int .i64 b, .int .i64 c]] w0 fun en w' => en = .returned (.bool (indB a b c)) ∧ Below w0.heap.size w0 w') := Lib.hid fun w0 => isIndefinite_any a b c w0
  have H1 : Hid (Blk (w.heap.size + 1) 40 #[.int .i64 0, .int .i64 0, .int .i64 0, .int .i64 0] ((w.alloc (.cells #[.int .i64 a, .int .i64 b, .int .i64 c] 36)).alloc (.cells #[.int .i64 0, .int .i64 0, .int .i64 0, .int .i64 0] 40))) := Lib.hid (by
    have := Blk.new (w.alloc (.cells #[.int .i64 a, .int .i64 b, .int .i64 c] 36)) 40 #[.int .i64 0, .int .i64 0, .int .i64 0, .int .i64 0]
    simpa using this)
  have H0 : Hid (Blk w.heap.size 36 #[.int .i64 a, .int .i64 b, .int .i64 c] ((w.alloc (.cells #[.int .i64 a, .int .i64 b, .int .i64 c] 36)).alloc (.cells #[.int .i64 0, .int .i64 0, .int .i64 0, .int .i64 0] 40))) := Lib.hid ((Blk.new w _ _).alloc _)
  cases hi : indB a b c with
  | false =>
    obtain ⟨rfl, rfl, rfl, rfl, rfl⟩ : m1 = 0 ∧ m2 = 0 ∧ m3 = 0 ∧ m4 = 0 ∧ ok = false := by
      rcases h with ⟨_, h1, h2⟩ | ⟨h1, _⟩
      · simp only [Prod.mk.injEq] at h1
        exact ⟨h1.1, h1.2.1, h1.2.2.1, h1.2.2.2, h2⟩
      · simp only at h1
        rw [hi] at h1; cases h1
    rw [hi] at hgood
    clear hi h
    go_enter Try.func33, Try.ntmps33
    go_wp2_with fail
    refine (hgood.out _).mono ?_
    rintro e1 w1 ⟨rfl, hB1⟩
    have k1 := H1.out.below hB1
    have c1 := k1.cell
    have f1 := k1.froz
    have l1 := k1.lt
    have HB : Hid (Below w.heap.size w w1) := Lib.hid (by repeat (first | with_reducible exact Below.refl _ _ | with_reducible assumption | ((with_reducible refine blA ?_ ?_); (focus (first | omega | (simp <;> omega)))) | (with_reducible refine blD ?_) | (with_reducible refine blN ?_) | ((with_reducible refine blS ?_ ?_); (focus (first | omega | (simp <;> omega)))) | ((with_reducible refine blT (by assumption) ?_ ?_); (focus (first | omega | (simp <;> omega))))))
    clear k1 hB1 H0 H1 hgood
    go_wp2_with fail
    refine bodyPost_ret (v := .tuple #[.agg #[.int .i64 0, .int .i64 0, .int .i64 0, .int .i64 0], .bool false]) (by go_light; simp [results, Try.results33, go_sem, *]) rfl ⟨rfl, ?_⟩
    have hq := HB.out
    repeat (first | with_reducible exact Below.refl _ _ | with_reducible assumption | ((with_reducible refine blA ?_ ?_); (focus (first | omega | (simp <;> omega)))) | (with_reducible refine blD ?_) | (with_reducible refine blN ?_) | ((with_reducible refine blS ?_ ?_); (focus (first | omega | (simp <;> omega)))) | ((with_reducible refine blT (by assumption) ?_ ?_); (focus (first | omega | (simp <;> omega)))))
  | true =>
  have hgd := ind_gd hi
  have hcyi : Hid (∀ w0, Calls Try.prog 89 #[.agg #[.int .i64 a, .int .i64 b, .int .i64 c]] w0 fun en w' => en = .returned (.bool (cyB (isqrt (discW a b c)) (a, b, c))) ∧ Below w0.heap.size w0 w') := Lib.hid fun w0 => isCyclic_any _ _ a b c w0 hgd
  rw [hi] at hgood
  cases hc : cyB (isqrt (discW a b c)) (a, b, c) with
  | false =>
    obtain ⟨rfl, rfl, rfl, rfl, rfl⟩ : m1 = 0 ∧ m2 = 0 ∧ m3 = 0 ∧ m4 = 0 ∧ ok = false := by
      rcases h with ⟨_, h1, h2⟩ | ⟨_, h1, _⟩
      · simp only [Prod.mk.injEq] at h1
        exact ⟨h1.1, h1.2.1, h1.2.2.1, h1.2.2.2, h2⟩
      · simp only at h1
        rw [hc] at h1; cases h1
    rw [hc] at hcyi
    clear hi h hc hgd
    go_enter Try.func33, Try.ntmps33
    go_wp2_with fail
    refine (hgood.out _).mono ?_
    rintro e1 w1 ⟨rfl, hB1⟩
    have K0 := Lib.hid (H0.out.below hB1)
    have K1 := Lib.hid (H1.out.below hB1)
    have HB : Hid (Below w.heap.size w w1) := Lib.hid (by repeat (first | with_reducible exact Below.refl _ _ | with_reducible assumption | ((with_reducible refine blA ?_ ?_); (focus (first | omega | (simp <;> omega)))) | (with_reducible refine blD ?_) | (with_reducible refine blN ?_) | ((with_reducible refine blS ?_ ?_); (focus (first | omega | (simp <;> omega)))) | ((with_reducible refine blT (by assumption) ?_ ?_); (focus (first | omega | (simp <;> omega))))))
    have c0 := K0.out.cell
    have l0 := K0.out.lt
    clear hB1 H0 H1 hgood
    go_wp2_with fail
    refine (hcyi.out _).mono ?_
    rintro e2 w2 ⟨rfl, hB2⟩
    have k2 := K1.out.below hB2
    have c2 := k2.cell
    have f2 := k2.froz
    have l2 := k2.lt
    have HB2 : Hid (Below w.heap.size w w2) := Lib.hid (HB.out.trans (hB2.mono HB.out.size))
    clear k2 hB2 K0 K1 hcyi c0 l0 HB
    go_wp2_with fail
    refine bodyPost_ret (v := .tuple #[.agg #[.int .i64 0, .int .i64 0, .int .i64 0, .int .i64 0], .bool false]) (by go_light; simp [results, Try.results33, go_sem, *]) rfl ⟨rfl, ?_⟩
    have hq := HB2.out
    repeat (first | with_reducible exact Below.refl _ _ | with_reducible assumption | ((with_reducible refine blA ?_ ?_); (focus (first | omega | (simp <;> omega)))) | (with_reducible refine blD ?_) | (with_reducible refine blN ?_) | ((with_reducible refine blS ?_ ?_); (focus (first | omega | (simp <;> omega)))) | ((with_reducible refine blT (by assumption) ?_ ?_); (focus (first | omega | (simp <;> omega)))))
  | true =>
  rw [hc] at hcyi
  obtain ⟨p, hper⟩ : ∃ p, Per (isqrt (discW a b c)) (a, b, c) p := nbn_first (cyB_iff.1 hc) hgd.root hgd.r31
  obtain ⟨r, hr⟩ : ∃ r, isqrt (discW a b c) = r := ⟨_, rfl⟩
  obtain ⟨d, hd⟩ : ∃ d, discW a b c = d := ⟨_, rfl⟩
  have HR := Lib.hid hr
  rw [hr] at hper hgd hc
  rw [hd] at hgd
  have HV := Lib.hid h
  have HI := Lib.hid hi
  have HCB := Lib.hid hc
  have HC := Lib.hid (cyB_iff.1 hc)
  have HG := Lib.hid hgd
  have HP := Lib.hid hper
  clear h hi hc hgd hper hr hd
  go_enter Try.func33, Try.ntmps33
  go_wp2_with fail
  refine (hgood.out _).mono ?_
  rintro e1 w1 ⟨rfl, hB1⟩
  have K0 := Lib.hid (H0.out.below hB1)
  have K1 := Lib.hid (H1.out.below hB1)
  have HB : Hid (Below w.heap.size w w1) := Lib.hid (by repeat (first | with_reducible exact Below.refl _ _ | with_reducible assumption | ((with_reducible refine blA ?_ ?_); (focus (first | omega | (simp <;> omega)))) | (with_reducible refine blD ?_) | (with_reducible refine blN ?_) | ((with_reducible refine blS ?_ ?_); (focus (first | omega | (simp <;> omega)))) | ((with_reducible refine blT (by assumption) ?_ ?_); (focus (first | omega | (simp <;> omega))))))
  have c0 := K0.out.cell
  have l0 := K0.out.lt
  clear hB1 H0 H1 hgood
  go_wp2_with fail
  refine (hcyi.out _).mono ?_
  rintro e2 w2 ⟨rfl, hB2⟩
  have k0 := Lib.hid (K0.out.below hB2)
  have k1 := Lib.hid (K1.out.below hB2)
  have HB2 : Hid (Below w.heap.size w w2) := Lib.hid (HB.out.trans (hB2.mono HB.out.size))
  clear hB2 K0 K1 hcyi c0 l0 HB
  go_wp2_with fail
  refine (one_any' _).mono ?_
  rintro e3 w3 ⟨rfl, hB3⟩
  have K0 := Lib.hid (k0.out.below hB3)
  have K1 := Lib.hid (k1.out.below hB3)
  have HB3 : Hid (Below w.heap.size w w3) := Lib.hid (HB2.out.trans (hB3.mono HB2.out.size))
  clear hB3 k0 k1 HB2
  have hA1 : w.heap.size + 1 < w3.heap.size := K1.out.lt
  obtain ⟨V, hV, HB0⟩ : ∃ V, (w3.alloc (.cells #[.int .i64 1, .int .i64 0, .int .i64 0, .int .i64 1] 40)).alloc (.cells #[.int .i64 a, .int .i64 b, .int .i64 c] 36) = V ∧ Hid (CPB w V w3.heap.size (w3.heap.size + 1) (a, b, c) (a, b, c) mI) := by
    refine ⟨_, rfl, Lib.hid ⟨(K0.out.alloc _).alloc _, (K1.out.alloc _).alloc _, (Blk.new _ _ _).alloc _, ?_, (HB3.out.alloc HB3.out.size _).alloc (by have := HB3.out.size; simp; omega) _, ⟨hA1, by omega⟩⟩⟩
    have := Blk.new (w3.alloc (.cells #[.int .i64 1, .int .i64 0, .int .i64 0, .int .i64 1] 40)) 36 #[.int .i64 a, .int .i64 b, .int .i64 c]
    simpa using this
  have c0 := K0.out.cell
  have l0 := K0.out.lt
  go_wp2_with fail
  try rw [hV]
  obtain ⟨A, hA⟩ : ∃ A, w3.heap.size = A := ⟨_, rfl⟩
  rw [hA] at HB0 ⊢
  clear hV K0 K1 HB3 hA1 hA c0 l0
  go_loopw [5, 6] (fun gv fv wr => ∃ (n G : Nat), gv = .pointer (some ⟨G, 0, none⟩) ∧ fv = .bool (decide (n = 0)) ∧ Hid (n ≤ p) ∧ Hid (CPB w wr A G (a, b, c) (nbn r n (a, b, c)) (nmn r n (a, b, c))) ∧ Hid (∀ j, j ≤ n → mle 1000000 (nmn r j (a, b, c))) ∧ Hid (Gd r d (nbn r n (a, b, c)))) (fun gv fv wr => msI r (a, b, c) gv fv wr)
  case atStart =>
    exact ⟨0, A + 1, rfl, rfl, Lib.hid (Nat.zero_le _), HB0, Lib.hid fun j hj => (by have e : j = 0 := by { omega }; rw [e]; exact (show mle 1000000 mI from ⟨by decide, by decide, by decide, by decide⟩)), HG⟩
  case round =>
    clear HB0
    obtain ⟨n, G, rfl, rfl, hn, hU, hM, hg⟩ := hrel
    obtain ⟨⟨x1, x2, x3⟩, hx⟩ : ∃ x, nbn r n (a, b, c) = x := ⟨_, rfl⟩
    obtain ⟨⟨M1, M2, M3, M4⟩, hMM⟩ : ∃ x, nmn r n (a, b, c) = x := ⟨_, rfl⟩
    rw [hx] at hU hg
    have hMn := hM.out n (Nat.le_refl _)
    rw [hMM] at hU hMn
    have HX := Lib.hid hx
    have HMM := Lib.hid hMM
    have HMN := Lib.hid hMn
    clear hx hMM hMn
    have HNP : Hid (0 < n → (n < p ↔ ¬ ((x1, x2, x3) : Fm) = (a, b, c))) := Lib.hid fun h0 => by
      obtain ⟨h1, h2, h3, h4⟩ := HP.out
      have h5 := hn.out
      constructor
      · intro h6 h7
        exact h4 n h0 h6 (by rw [HX.out, h7])
      · intro h6
        rcases (show n < p ∨ n = p by omega) with h | h
        · exact h
        · rw [← h, HX.out] at h3
          exact absurd h3 h6
    have cg := hU.out.g.cell
    have lg := hU.out.g.lt
    have cf := hU.out.f.cell
    have lf := hU.out.f.lt
    simp only at cg cf
    have HCX := Lib.hid cg
    go_upto_region 5 with fail
    go_cut [6, 25] from 20 to 39 (fun s6 s25 wx => s6 = .bool (decide (n = 0)) ∧ s25 = .bool (decide (n < p)) ∧ wx = wr)
    case first =>
      rcases Nat.eq_zero_or_pos n with h0 | h0
      · have hp1 := HP.out.1
        subst h0
        go_wp2_with fail
        go_meet
        case rel => exact ⟨rfl, by rw [decide_eq_true (show 0 < p by omega)], rfl⟩
      · have hn0 : decide (n = 0) = false := decide_eq_false (by omega)
        have hiff := HNP.out h0
        by_cases hyf : ((x1, x2, x3) : Fm) = (a, b, c)
        · have hlt : decide (n < p) = false := decide_eq_false (fun h => (hiff.1 h) hyf)
          simp only [Prod.mk.injEq] at hyf
          obtain ⟨e1, e2, e3⟩ := hyf
          clear hiff HX hg HNP
          subst x1 x2 x3
          go_wp2_with fail
          go_meet
          case rel => exact ⟨by rw [hn0], by rw [hlt], rfl⟩
        · have hlt : decide (n < p) = true := decide_eq_true (hiff.2 hyf)
          have split3 : ¬ x1 = a ∨ (x1 = a ∧ ¬ x2 = b) ∨ (x1 = a ∧ x2 = b ∧ ¬ x3 = c) := by
            by_cases e1 : x1 = a
            · by_cases e2 : x2 = b
              · exact .inr (.inr ⟨e1, e2, fun e3 => hyf (by rw [e1, e2, e3])⟩)
              · exact .inr (.inl ⟨e1, e2⟩)
            · exact .inl e1
          clear hiff HX hg HNP hyf
          rcases split3 with e1 | ⟨e1, e2⟩ | ⟨e1, e2, e3⟩
          · go_wp2_with fail
            go_meet
            case rel => exact ⟨by rw [hn0], by rw [hlt], rfl⟩
          · subst x1
            go_wp2_with fail
            go_meet
            case rel => exact ⟨by rw [hn0], by rw [hlt], rfl⟩
          · subst x1
            subst x2
            go_wp2_with fail
            go_meet
            case rel => exact ⟨by rw [hn0], by rw [hlt], rfl⟩
    case rest =>
    obtain ⟨rfl, rfl, rfl⟩ := hcut
    by_cases hlt : n < p
    · have hltd : decide (n < p) = true := decide_eq_true hlt
      have HLT0 := Lib.hid hlt
      clear hlt
      have hnb := Lib.hid fun w1 => neighbour_any r d x1 x2 x3 w1 hg.out
      have hmm := mB_mle.1 (nmg_mB hg.out)
      have hml := Lib.hid fun w1 => times_mm (M1, M2, M3, M4) (nmg r (x1, x2, x3)) w1 HMN.out hmm
      obtain ⟨⟨m1', m2', m3', m4'⟩, hm⟩ : ∃ x, nmg r (x1, x2, x3) = x := ⟨_, rfl⟩
      obtain ⟨⟨y1, y2, y3⟩, hy⟩ : ∃ x, nbg r (x1, x2, x3) = x := ⟨_, rfl⟩
      rw [hm] at hnb hml
      rw [hy] at hnb
      obtain ⟨⟨P1, P2, P3, P4⟩, hP⟩ : ∃ x, mm (M1, M2, M3, M4) (m1', m2', m3', m4') = x := ⟨_, rfl⟩
      rw [hP] at hml
      simp only at hnb hml
      obtain ⟨hs1, hs2, hs3, hs4⟩ := next_step HC.out HG.out HX.out HMM.out hm hy hP
      have hgy := hg.out.next.1
      rw [hy] at hgy
      have HNX := Lib.hid (And.intro hs1 hs2)
      have HGY := Lib.hid hgy
      clear hmm hm hy hP hs1 hs2 hs3 hs4 hgy HNP cf lf
      go_wp2_with fail
      refine (hnb.out _).mono ?_
      rintro e2 z2 ⟨rfl, hB2⟩
      have hU2 := Lib.hid (hU.out.below hB2)
      clear hU hB2 cg lg hnb
      obtain ⟨z3, ez3, KY, K3, hU3⟩ : ∃ z3, (z2.alloc (.cells #[.int .i64 y1, .int .i64 y2, .int .i64 y3] 36)).alloc (.cells #[.int .i64 m1', .int .i64 m2', .int .i64 m3', .int .i64 m4'] 40) = z3 ∧ Hid (Blk z2.heap.size 36 #[.int .i64 y1, .int .i64 y2, .int .i64 y3] z3) ∧ Hid (Blk (z2.heap.size + 1) 40 #[.int .i64 m1', .int .i64 m2', .int .i64 m3', .int .i64 m4'] z3) ∧ Hid (CPB w z3 A G (a, b, c) (x1, x2, x3) (M1, M2, M3, M4)) := ⟨_, rfl, Lib.hid ((Blk.new _ _ _).alloc _), Lib.hid (by have h := Blk.new (z2.alloc (.cells #[.int .i64 y1, .int .i64 y2, .int .i64 y3] 36)) 40 #[.int .i64 m1', .int .i64 m2', .int .i64 m3', .int .i64 m4']; simpa using h), Lib.hid ((hU2.out.alloc _).alloc _)⟩
      have hGm : G < z2.heap.size := hU2.out.g.lt
      obtain ⟨mb, hmb⟩ : ∃ mb, z2.heap.size = mb := ⟨_, rfl⟩
      rw [hmb] at KY K3 hGm
      have c3a := hU3.out.a.cell
      have l3a := hU3.out.a.lt
      have c3m := K3.out.cell
      have l3m := K3.out.lt
      simp only at c3a
      clear hU2
      go_wp2_with fail
      try rw [ez3]
      refine (hml.out _).mono ?_
      rintro e4 z4 ⟨rfl, hB4⟩
      have hU4 := hU3.out.below hB4
      have ky4 := KY.out.below hB4
      clear hB4 hU3 K3 KY c3a l3a c3m l3m ez3 hml
      have c4a := hU4.a.cell
      have f4a := hU4.a.froz
      have l4a := hU4.a.lt
      have ho4 := hU4.o
      obtain ⟨z6, ez6, K6, zz6, q6⟩ := hU4.a.set4 (.int .i64 P1) (.int .i64 P2) (.int .i64 P3) (.int .i64 P4)
      have hU6 : Hid (CPB w z6 A G (a, b, c) (x1, x2, x3) (P1, P2, P3, P4)) := Lib.hid ⟨hU4.f.grown q6 (by simp <;> omega), hU4.r.grown q6 (by simp <;> omega), K6, hU4.g.grown q6 (by simp <;> omega), below_grown hU4.b q6 (by omega) (by have := hU4.b.size; omega), hU4.o⟩
      have KY6 := Lib.hid (ky4.grown q6 (by simp <;> omega))
      simp only at c4a
      have c6a := hU6.out.a.cell
      have l6a := hU6.out.a.lt
      simp only at c6a
      clear hU4 ky4 K6 q6 zz6
      go_wp2_with fail
      have hmat := Lib.hid fun w0 => iMatrix_any P1 P2 P3 P4 w0
      refine (hmat.out _).mono ?_
      rintro e7 z7 ⟨rfl, hB7⟩
      have hU7 := Lib.hid (hU6.out.below hB7)
      have KY7 := Lib.hid (KY6.out.below hB7)
      clear hU6 KY6 hB7 hmat c6a l6a c4a f4a l4a ez6 ho4
      cases hmb' : mB P1 P2 P3 P4 with
      | false =>
        have hz := HV.out.big HR.out HI.out HCB.out HP.out (n := n + 1) HLT0.out (by rw [HNX.out.2]; intro hx; have := (mB_mle (M := (P1, P2, P3, P4))).2 hx; rw [hmb'] at this; cases this)
        simp only [Prod.mk.injEq] at hz
        obtain ⟨⟨rfl, rfl, rfl, rfl⟩, rfl⟩ := hz
        have c7r := hU7.out.r.cell
        have f7r := hU7.out.r.froz
        have l7r := hU7.out.r.lt
        have HB8 := Lib.hid hU7.out.b
        clear hmb' hU7 HNX KY7
        go_wp2_with fail
        refine bodyPost_ret (v := .tuple #[.agg #[.int .i64 0, .int .i64 0, .int .i64 0, .int .i64 0], .bool false]) (by go_light; simp [results, Try.results33, go_sem, *]) rfl ⟨rfl, ?_⟩
        have hq := HB8.out
        repeat (first | with_reducible exact Below.refl _ _ | with_reducible assumption | ((with_reducible refine blA ?_ ?_); (focus (first | omega | (simp <;> omega)))) | (with_reducible refine blD ?_) | (with_reducible refine blN ?_) | ((with_reducible refine blS ?_ ?_); (focus (first | omega | (simp <;> omega)))) | ((with_reducible refine blT (by assumption) ?_ ?_); (focus (first | omega | (simp <;> omega)))))
      | true =>
        have HMX : Hid (∀ j, j ≤ n + 1 → mle 1000000 (nmn r j (a, b, c))) := Lib.hid fun j hj => by
          rcases (show j ≤ n ∨ j = n + 1 by omega) with h | h
          · exact hM.out j h
          · rw [h, HNX.out.2]; exact (mB_mle (M := (P1, P2, P3, P4))).1 hmb'
        clear hmb'
        have c7y := KY7.out.cell
        have l7y := KY7.out.lt
        have c7g := hU7.out.g.cell
        have f7g := hU7.out.g.froz
        have l7g := hU7.out.g.lt
        simp only at c7g
        obtain ⟨z8, ez8, K8, zz8, q8⟩ := hU7.out.g.set3 (.int .i64 y1) (.int .i64 y2) (.int .i64 y3)
        have ho7 := hU7.out.o
        have hU8 : Hid (CPB w z8 A G (a, b, c) (y1, y2, y3) (P1, P2, P3, P4)) := Lib.hid ⟨hU7.out.f.grown q8 (by simp <;> omega), hU7.out.r.grown q8 (by simp <;> omega), hU7.out.a.grown q8 (by simp <;> omega), K8, below_grown hU7.out.b q8 (by omega) (by have := hU7.out.b.size; omega), hU7.out.o⟩
        have c8g := K8.cell
        have l8g := K8.lt
        clear K8 q8 zz8 hU7 KY7
        go_wp2_with fail
        have hU9 := hU8.out.alloc (.cells #[.int .i64 y1, .int .i64 y2, .int .i64 y3] 36)
        have K9 := Blk.new z8 36 #[.int .i64 y1, .int .i64 y2, .int .i64 y3]
        have hG7 := hU8.out.o
        have hG8 := hU8.out.g.lt
        have HU9 : Hid (CPB w (z8.alloc (.cells #[.int .i64 y1, .int .i64 y2, .int .i64 y3] 36)) A z8.heap.size (a, b, c) (y1, y2, y3) (P1, P2, P3, P4)) := Lib.hid ⟨hU9.f, hU9.r, hU9.a, K9, hU9.b, ⟨hG7.1, by omega⟩⟩
        clear hU9 K9 hG7 hG8 hU8
        go_roundw
        case rel =>
          go_light
          exact ⟨n + 1, z8.heap.size, rfl, by simp, Lib.hid HLT0.out, by rw [HNX.out.1, HNX.out.2]; exact HU9, HMX, by rw [HNX.out.1]; exact HGY⟩
        case measure =>
          have h2 := HU9.out.g.cell
          have hx0 := HCX.out
          simp only at h2
          rcases Nat.eq_zero_or_pos n with h0 | h0
          · subst h0
            simp [msI, atF, intOf, h2]
            have := dst_le r (a, b, c) (y1, y2, y3)
            omega
          · have hn0 : decide (n = 0) = false := decide_eq_false (by omega)
            have h8 := per_less HP.out h0 HLT0.out
            rw [HNX.out.1, HX.out] at h8
            rw [hn0]
            simp [msI, atF, intOf, h2, hx0]
            exact h8
    · have hltd : decide (n < p) = false := decide_eq_false hlt
      have hnp : n = p := by have := hn.out; omega
      have hz := HV.out.back HR.out HI.out HCB.out HP.out (fun j hj => hM.out j (by omega))
      rw [← hnp, HMM.out] at hz
      simp only [Prod.mk.injEq] at hz
      obtain ⟨⟨rfl, rfl, rfl, rfl⟩, rfl⟩ := hz
      have c7a := hU.out.a.cell
      have l7a := hU.out.a.lt
      have c7r := hU.out.r.cell
      have f7r := hU.out.r.froz
      have l7r := hU.out.r.lt
      have HB8 := Lib.hid hU.out.b
      simp only at c7a
      rw [hltd]
      clear hU hnp hlt hltd cg lg cf lf HNP HCX
      go_wp2_with fail
      refine bodyPost_ret (v := .tuple #[.agg #[.int .i64 m1, .int .i64 m2, .int .i64 m3, .int .i64 m4], .bool true]) (by go_light; simp [results, Try.results33, go_sem, *]) rfl ⟨rfl, ?_⟩
      have hq := HB8.out
      repeat (first | with_reducible exact Below.refl _ _ | with_reducible assumption | ((with_reducible refine blA ?_ ?_); (focus (first | omega | (simp <;> omega)))) | (with_reducible refine blD ?_) | (with_reducible refine blN ?_) | ((with_reducible refine blS ?_ ?_); (focus (first | omega | (simp <;> omega)))) | ((with_reducible refine blT (by assumption) ?_ ?_); (focus (first | omega | (simp <;> omega)))))
end Go.Proofs.Ytemnkfigjpphgaa
