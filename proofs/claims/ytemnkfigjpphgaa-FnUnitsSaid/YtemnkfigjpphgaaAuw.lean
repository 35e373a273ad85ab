/-
  Automorphs of an indefinite form, walked both ways. (Printed by mkauw.py.)
-/
import Derived.Test.YtemnkfigjpphgaaAup
import Derived.Test.YtemnkfigjpphgaaIcn
namespace Go.Proofs.Ytemnkfigjpphgaa
open Go.RowKit
attribute [local simp, local go_sem] past_cell past_frozen past_tape
theorem pellPower_up (d k t u : Int) (ok : Bool) (w : World) (hp : posB d = true) (k0 : 0 ≤ k) (k1 : k ≤ 20) (h : UP d k t u ok) :
    Calls Try.prog 45 #[.int .i64 d, .int .i64 k] w fun en w' => en = .returned (.tuple #[.agg #[.int .i64 t, .int .i64 u], .bool ok]) ∧ Below w.heap.size w w' := by
  obtain ⟨T, U, okf, hf, h⟩ := h
  rcases h with ⟨rfl, h⟩ | ⟨rfl, rfl, rfl, rfl⟩
  · obtain ⟨hL, hS⟩ : Least d T U ∧ Small T U := by rcases hf with ⟨_, h1, h2⟩ | ⟨h1, _⟩; exact ⟨h1, h2⟩; cases h1
    have := pellPower_yes d T U t u k.toNat ok w hp hf (hL.smallB hS) (by omega) h
    rwa [show ((k.toNat : Nat) : Int) = k by omega] at this
  · exact pellPower_no d k T U false w hp hf (fun h => by cases h.1)
/-- Nothing overflows. -/
theorem auW {a b c t v : Int} (ha : -1000000 ≤ a ∧ a ≤ 1000000) (hb : -1000000 ≤ b ∧ b ≤ 1000000) (hc : -1000000 ≤ c ∧ c ≤ 1000000) (ht : -100000000 ≤ t ∧ t ≤ 100000000) (hv : -1000000 ≤ v ∧ v ≤ 1000000) :
    wrap64 (b * v) = b * v ∧ wrap64 (t - b * v) = t - b * v ∧ wrap64 ((t - b * v).tdiv 2) = (t - b * v).tdiv 2 ∧ wrap64 (c * v) = c * v ∧ wrap64 (a * v) = a * v ∧ wrap64 (t + b * v) = t + b * v ∧ wrap64 ((t + b * v).tdiv 2) = (t + b * v).tdiv 2 := by
  obtain ⟨b1, b2⟩ := mul_bd (k := 1000000) (m := 1000000) (n := 1000000000000) (a := b) (b := v) hb hv (by omega)
  obtain ⟨c1, c2⟩ := mul_bd (k := 1000000) (m := 1000000) (n := 1000000000000) (a := c) (b := v) hc hv (by omega)
  obtain ⟨a1, a2⟩ := mul_bd (k := 1000000) (m := 1000000) (n := 1000000000000) (a := a) (b := v) ha hv (by omega)
  obtain ⟨p1, p2⟩ := tdiv_bd (k := 2000000000000) (a := t - b * v) 2 ⟨by omega, by omega⟩
  obtain ⟨q1, q2⟩ := tdiv_bd (k := 2000000000000) (a := t + b * v) 2 ⟨by omega, by omega⟩
  refine ⟨?_, ?_, ?_, ?_, ?_, ?_, ?_⟩ <;> (unfold wrap64; omega)
set_option maxRecDepth 100000 in
set_option maxHeartbeats 16000000 in
theorem automorph_any (a b c k m1 m2 m3 m4 : Int) (ok : Bool) (w : World) (hi : indB a b c = true) (hk : -20 ≤ k ∧ k ≤ 20) (h : AV (a, b, c) k (m1, m2, m3, m4) ok) :
    Calls Try.prog 97 #[.agg #[.int .i64 a, .int .i64 b, .int .i64 c], .int .i64 k] w fun e w' => e = .returned (.tuple #[.agg #[.int .i64 m1, .int .i64 m2, .int .i64 m3, .int .i64 m4], .bool ok]) ∧ Below w.heap.size w w' := by
  have hgd := ind_gd hi
  have hp := ind_pos hi
  have hds : fdisc (a, b, c) = discW a b c := hgd.ds
  obtain ⟨ha, hb', hc⟩ : (-1000000 ≤ a ∧ a ≤ 1000000) ∧ (-1000000 ≤ b ∧ b ≤ 1000000) ∧ (-1000000 ≤ c ∧ c ≤ 1000000) := ⟨hgd.a, hgd.b, hgd.c⟩
  obtain ⟨t, u, o, hup, h⟩ := h
  rw [hds] at hup
  obtain ⟨d, hd⟩ : ∃ d, discW a b c = d := ⟨_, rfl⟩
  have hdd : Hid (∀ w0, Calls Try.prog 111 #[.agg #[.int .i64 a, .int .i64 b, .int .i64 c]] w0 fun en w' => en = .returned (.int .i64 d) ∧ Below w0.heap.size w0 w') := Lib.hid fun w0 => by have h := disc_any a b c w0; rwa [hd] at h
  rw [hd] at hup hp
  have haa : Hid (∀ w0, Calls Try.prog 51 #[.int .i64 k] w0 fun en w' => en = .returned (.int .i64 (k.natAbs : Int)) ∧ w0 = w') := Lib.hid fun w0 => abs_nat k w0 ⟨by omega, by omega⟩
  obtain ⟨k', hk'⟩ : ∃ k' : Int, (k.natAbs : Int) = k' := ⟨_, rfl⟩
  rw [hk'] at haa hup
  have hpw := Lib.hid fun w0 => pellPower_up d k' t u o w0 hp (by omega) (by omega) hup
  have H0 : Hid (Blk w.heap.size 36 #[.int .i64 a, .int .i64 b, .int .i64 c] ((w.alloc (.cells #[.int .i64 a, .int .i64 b, .int .i64 c] 36)).alloc (.cells #[.int .i64 0, .int .i64 0, .int .i64 0, .int .i64 0] 40))) := Lib.hid ((Blk.new w _ _).alloc _)
  have H1 : Hid (Blk (w.heap.size + 1) 40 #[.int .i64 0, .int .i64 0, .int .i64 0, .int .i64 0] ((w.alloc (.cells #[.int .i64 a, .int .i64 b, .int .i64 c] 36)).alloc (.cells #[.int .i64 0, .int .i64 0, .int .i64 0, .int .i64 0] 40))) := Lib.hid (by
    have := Blk.new (w.alloc (.cells #[.int .i64 a, .int .i64 b, .int .i64 c] 36)) 40 #[.int .i64 0, .int .i64 0, .int .i64 0, .int .i64 0]
    simpa using this)
  have HH := Lib.hid h
  have HUP := Lib.hid hup
  have HPD := Lib.hid hp
  clear h hup hp hgd hds hi hd
  go_enter Try.func97, Try.ntmps97
  go_wp2_with fail
  refine (hdd.out _).mono ?_
  rintro e1 w1 ⟨rfl, hB1⟩
  have K0 := Lib.hid (H0.out.below hB1)
  have K1 := Lib.hid (H1.out.below hB1)
  have HB : Hid (Below w.heap.size w w1) := Lib.hid (by repeat (first | with_reducible exact Below.refl _ _ | with_reducible assumption | ((with_reducible refine blA ?_ ?_); (focus (first | omega | (simp <;> omega)))) | (with_reducible refine blD ?_) | (with_reducible refine blN ?_) | ((with_reducible refine blS ?_ ?_); (focus (first | omega | (simp <;> omega)))) | ((with_reducible refine blT (by assumption) ?_ ?_); (focus (first | omega | (simp <;> omega))))))
  clear hB1 H0 H1 hdd
  go_wp2_with (first | (go_at_call 51; refine (haa.out _).mono ?_; rintro e w' ⟨rfl, rfl⟩))
  refine (hpw.out _).mono ?_
  rintro e2 w2 ⟨rfl, hB2⟩
  have K2 := Lib.hid (K0.out.below hB2)
  have K3 := Lib.hid (K1.out.below hB2)
  have HB2 : Hid (Below w.heap.size w w2) := Lib.hid (HB.out.trans (hB2.mono HB.out.size))
  clear hB2 K0 K1 hpw haa HB
  obtain ⟨V, hV, K4, K5, K6, HB3⟩ : ∃ V, w2.alloc (.cells #[.int .i64 t, .int .i64 u] 27) = V ∧ Hid (Blk w.heap.size 36 #[.int .i64 a, .int .i64 b, .int .i64 c] V) ∧ Hid (Blk (w.heap.size + 1) 40 #[.int .i64 0, .int .i64 0, .int .i64 0, .int .i64 0] V) ∧ Hid (Blk w2.heap.size 27 #[.int .i64 t, .int .i64 u] V) ∧ Hid (Below w.heap.size w V) := ⟨_, rfl, Lib.hid (K2.out.alloc _), Lib.hid (K3.out.alloc _), Lib.hid (Blk.new _ _ _), Lib.hid (HB2.out.alloc HB2.out.size _)⟩
  have hzb : w.heap.size + 1 < w2.heap.size := K3.out.lt
  obtain ⟨sb, hsb⟩ : ∃ sb, w2.heap.size = sb := ⟨_, rfl⟩
  rw [hsb] at K6 hzb
  clear K2 K3 HB2
  cases o with
  | false =>
    obtain ⟨hz, rfl⟩ : (m1, m2, m3, m4) = ((0, 0, 0, 0) : Mt) ∧ ok = false := by
      rcases HH.out with ⟨h, _⟩ | ⟨h, _⟩ | ⟨_, h1, h2⟩
      · cases h
      · cases h
      · exact ⟨h1, h2⟩
    simp only [Prod.mk.injEq] at hz
    obtain ⟨rfl, rfl, rfl, rfl⟩ := hz
    have c5 := K5.out.cell
    have f5 := K5.out.froz
    have l5 := K5.out.lt
    have hb1 := HB3
    clear HH K4 K6
    go_wp2_with fail
    try rw [hV]
    refine bodyPost_ret (v := .tuple #[.agg #[.int .i64 0, .int .i64 0, .int .i64 0, .int .i64 0], .bool false]) (by go_light; simp [results, Try.results97, go_sem, *]) rfl ⟨rfl, ?_⟩
    have hq := HB3.out
    try rw [hV]
    repeat (first | with_reducible exact Below.refl _ _ | with_reducible assumption | ((with_reducible refine blA ?_ ?_); (focus (first | omega | (simp <;> omega)))) | (with_reducible refine blD ?_) | (with_reducible refine blN ?_) | ((with_reducible refine blS ?_ ?_); (focus (first | omega | (simp <;> omega)))) | ((with_reducible refine blT (by assumption) ?_ ?_); (focus (first | omega | (simp <;> omega)))))
  | true =>
    have HT : Hid ((m1, m2, m3, m4) = auV (a, b, c) t (sgU k u) ∧ mle 1000000 (auV (a, b, c) t (sgU k u)) ∧ ok = true ∨ ¬ mle 1000000 (auV (a, b, c) t (sgU k u)) ∧ (m1, m2, m3, m4) = ((0, 0, 0, 0) : Mt) ∧ ok = false) := Lib.hid (by
      rcases HH.out with ⟨_, h1, h2, h3⟩ | ⟨_, h1, h2, h3⟩ | ⟨h, _⟩
      · exact .inl ⟨h2, h1, h3⟩
      · exact .inr ⟨h1, h2, h3⟩
      · cases h)
    have hsm : smallB t u = true := by obtain ⟨_, _, _, _, _, _, hsm, _, _⟩ := HUP.out.true HPD.out; exact hsm
    obtain ⟨⟨t1, t2⟩, ⟨u1, u2⟩⟩ := smallB_bd hsm
    clear HH HUP HPD hsm
    obtain ⟨v, hv⟩ : ∃ v, sgU k u = v := ⟨_, rfl⟩
    have hvb : -1000000 ≤ v ∧ v ≤ 1000000 := by unfold sgU at hv; split at hv <;> omega
    rw [hv] at HT
    obtain ⟨c', hc'⟩ : ∃ c', -c = c' := ⟨_, rfl⟩
    have hwc : wrap64 (-c) = c' := by rw [← hc']; unfold wrap64; omega
    obtain ⟨x1, x2, x3, x4, x5, x6, x7⟩ := auW (c := c') ha hb' (by omega) ⟨t1, t2⟩ hvb
    obtain ⟨q1, hq1⟩ : ∃ q, (t - b * v).tdiv 2 = q := ⟨_, rfl⟩
    obtain ⟨q2, hq2⟩ : ∃ q, c' * v = q := ⟨_, rfl⟩
    obtain ⟨q3, hq3⟩ : ∃ q, a * v = q := ⟨_, rfl⟩
    obtain ⟨q4, hq4⟩ : ∃ q, (t + b * v).tdiv 2 = q := ⟨_, rfl⟩
    have HE : Hid (auV (a, b, c) t v = (q1, q2, q3, q4)) := Lib.hid (by
      simp only [auV]
      rw [hq1, hc', hq2, hq3, hq4])
    rw [HE.out] at HT
    rw [hq1] at x3
    rw [hq2] at x4
    rw [hq3] at x5
    rw [hq4] at x7
    have c4 := K4.out.cell
    have l4 := K4.out.lt
    have c6 := K6.out.cell
    have f6 := K6.out.froz
    have l6 := K6.out.lt
    by_cases hk0 : k < 0
    · have hkd : decide (k < 0) = true := decide_eq_true hk0
      have hwu : wrap64 (-u) = v := by rw [← hv]; unfold sgU; rw [if_pos hk0]; unfold wrap64; omega
      obtain ⟨V6, hV6, k4, k5, k6, hb⟩ : ∃ V6, V.setCell ⟨sb, 1, none⟩ (.int .i64 v) = V6 ∧ Hid (Blk w.heap.size 36 #[.int .i64 a, .int .i64 b, .int .i64 c] V6) ∧ Hid (Blk (w.heap.size + 1) 40 #[.int .i64 0, .int .i64 0, .int .i64 0, .int .i64 0] V6) ∧ Hid (Blk sb 27 #[.int .i64 t, .int .i64 v] V6) ∧ Hid (Below w.heap.size w V6) :=
        ⟨_, rfl, Lib.hid (K4.out.grown (grown_set1 _ _ _ _) (by simp <;> omega)), Lib.hid (K5.out.grown (grown_set1 _ _ _ _) (by simp <;> omega)), Lib.hid (by have h := K6.out.set1 1 (.int .i64 v); simpa using h), Lib.hid (below_grown HB3.out (grown_set1 _ _ _ _) (by omega) HB3.out.size)⟩
      clear hk0 hv hvb ha hb' hc hc' hk t1 t2 u1 u2
      clear K4 K5 K6 HB3
      have c4' := k4.out.cell
      have l4' := k4.out.lt
      have c6' := k6.out.cell
      have l6' := k6.out.lt
      cases hmb : mB q1 q2 q3 q4 with
      | true =>
        have hch := Lib.hid fun w0 => checked_yes q1 q2 q3 q4 w0 hmb
        obtain ⟨h1, rfl⟩ : (m1, m2, m3, m4) = (q1, q2, q3, q4) ∧ ok = true := by
          rcases HT.out with ⟨h1, _, h2⟩ | ⟨h1, _⟩
          · exact ⟨h1, h2⟩
          · exact absurd (mB_mle.1 hmb) h1
        simp only [Prod.mk.injEq] at h1
        obtain ⟨rfl, rfl, rfl, rfl⟩ := h1
        clear hmb HT HE
        go_wp2_with fail
        try rw [hV]
        try rw [hV6]
        refine (hch.out _).mono ?_
        rintro e8 w8 ⟨rfl, hB8⟩
        have k8 := k5.out.below hB8
        have HB8 := Lib.hid (hb.out.trans (hB8.mono hb.out.size))
        have c8 := k8.cell
        have f8 := k8.froz
        have l8 := k8.lt
        clear k8 hB8 hch
        go_wp2_with fail
        refine bodyPost_ret (v := .tuple #[.agg #[.int .i64 m1, .int .i64 m2, .int .i64 m3, .int .i64 m4], .bool true]) (by go_light; simp [results, Try.results97, go_sem, *]) rfl ⟨rfl, ?_⟩
        have hq := HB8.out
        repeat (first | with_reducible exact Below.refl _ _ | with_reducible assumption | ((with_reducible refine blA ?_ ?_); (focus (first | omega | (simp <;> omega)))) | (with_reducible refine blD ?_) | (with_reducible refine blN ?_) | ((with_reducible refine blS ?_ ?_); (focus (first | omega | (simp <;> omega)))) | ((with_reducible refine blT (by assumption) ?_ ?_); (focus (first | omega | (simp <;> omega)))))
      | false =>
        have hch := Lib.hid fun w0 => checked_no q1 q2 q3 q4 w0 hmb
        obtain ⟨h1, rfl⟩ : (m1, m2, m3, m4) = ((0, 0, 0, 0) : Mt) ∧ ok = false := by
          rcases HT.out with ⟨_, h1, _⟩ | ⟨_, h1, h2⟩
          · have := mB_mle.2 h1; rw [hmb] at this; cases this
          · exact ⟨h1, h2⟩
        simp only [Prod.mk.injEq] at h1
        obtain ⟨rfl, rfl, rfl, rfl⟩ := h1
        clear hmb HT HE
        go_wp2_with fail
        try rw [hV]
        try rw [hV6]
        refine (hch.out _).mono ?_
        rintro e8 w8 ⟨rfl, hB8⟩
        have k8 := k5.out.below hB8
        have HB8 := Lib.hid (hb.out.trans (hB8.mono hb.out.size))
        have c8 := k8.cell
        have f8 := k8.froz
        have l8 := k8.lt
        clear k8 hB8 hch
        go_wp2_with fail
        refine bodyPost_ret (v := .tuple #[.agg #[.int .i64 0, .int .i64 0, .int .i64 0, .int .i64 0], .bool false]) (by go_light; simp [results, Try.results97, go_sem, *]) rfl ⟨rfl, ?_⟩
        have hq := HB8.out
        repeat (first | with_reducible exact Below.refl _ _ | with_reducible assumption | ((with_reducible refine blA ?_ ?_); (focus (first | omega | (simp <;> omega)))) | (with_reducible refine blD ?_) | (with_reducible refine blN ?_) | ((with_reducible refine blS ?_ ?_); (focus (first | omega | (simp <;> omega)))) | ((with_reducible refine blT (by assumption) ?_ ?_); (focus (first | omega | (simp <;> omega)))))
    · have hkd : decide (k < 0) = false := decide_eq_false hk0
      obtain rfl : u = v := by rw [← hv]; unfold sgU; rw [if_neg hk0]
      clear hk0 hv hvb ha hb' hc hc' hk t1 t2 u1 u2
      have k5 := K5
      have hb := HB3
      cases hmb : mB q1 q2 q3 q4 with
      | true =>
        have hch := Lib.hid fun w0 => checked_yes q1 q2 q3 q4 w0 hmb
        obtain ⟨h1, rfl⟩ : (m1, m2, m3, m4) = (q1, q2, q3, q4) ∧ ok = true := by
          rcases HT.out with ⟨h1, _, h2⟩ | ⟨h1, _⟩
          · exact ⟨h1, h2⟩
          · exact absurd (mB_mle.1 hmb) h1
        simp only [Prod.mk.injEq] at h1
        obtain ⟨rfl, rfl, rfl, rfl⟩ := h1
        clear hmb HT HE
        go_wp2_with fail
        try rw [hV]
        skip
        refine (hch.out _).mono ?_
        rintro e8 w8 ⟨rfl, hB8⟩
        have k8 := k5.out.below hB8
        have HB8 := Lib.hid (hb.out.trans (hB8.mono hb.out.size))
        have c8 := k8.cell
        have f8 := k8.froz
        have l8 := k8.lt
        clear k8 hB8 hch
        go_wp2_with fail
        refine bodyPost_ret (v := .tuple #[.agg #[.int .i64 m1, .int .i64 m2, .int .i64 m3, .int .i64 m4], .bool true]) (by go_light; simp [results, Try.results97, go_sem, *]) rfl ⟨rfl, ?_⟩
        have hq := HB8.out
        repeat (first | with_reducible exact Below.refl _ _ | with_reducible assumption | ((with_reducible refine blA ?_ ?_); (focus (first | omega | (simp <;> omega)))) | (with_reducible refine blD ?_) | (with_reducible refine blN ?_) | ((with_reducible refine blS ?_ ?_); (focus (first | omega | (simp <;> omega)))) | ((with_reducible refine blT (by assumption) ?_ ?_); (focus (first | omega | (simp <;> omega)))))
      | false =>
        have hch := Lib.hid fun w0 => checked_no q1 q2 q3 q4 w0 hmb
        obtain ⟨h1, rfl⟩ : (m1, m2, m3, m4) = ((0, 0, 0, 0) : Mt) ∧ ok = false := by
          rcases HT.out with ⟨_, h1, _⟩ | ⟨_, h1, h2⟩
          · have := mB_mle.2 h1; rw [hmb] at this; cases this
          · exact ⟨h1, h2⟩
        simp only [Prod.mk.injEq] at h1
        obtain ⟨rfl, rfl, rfl, rfl⟩ := h1
        clear hmb HT HE
        go_wp2_with fail
        try rw [hV]
        skip
        refine (hch.out _).mono ?_
        rintro e8 w8 ⟨rfl, hB8⟩
        have k8 := k5.out.below hB8
        have HB8 := Lib.hid (hb.out.trans (hB8.mono hb.out.size))
        have c8 := k8.cell
        have f8 := k8.froz
        have l8 := k8.lt
        clear k8 hB8 hch
        go_wp2_with fail
        refine bodyPost_ret (v := .tuple #[.agg #[.int .i64 0, .int .i64 0, .int .i64 0, .int .i64 0], .bool false]) (by go_light; simp [results, Try.results97, go_sem, *]) rfl ⟨rfl, ?_⟩
        have hq := HB8.out
        repeat (first | with_reducible exact Below.refl _ _ | with_reducible assumption | ((with_reducible refine blA ?_ ?_); (focus (first | omega | (simp <;> omega)))) | (with_reducible refine blD ?_) | (with_reducible refine blN ?_) | ((with_reducible refine blS ?_ ?_); (focus (first | omega | (simp <;> omega)))) | ((with_reducible refine blT (by assumption) ?_ ?_); (focus (first | omega | (simp <;> omega)))))
set_option maxRecDepth 100000 in
set_option maxHeartbeats 16000000 in
theorem unAutomorph_any (a b c k m1 m2 m3 m4 : Int) (ok : Bool) (w : World) (hi : indB a b c = true) (hk : -20 ≤ k ∧ k ≤ 20) (h : AV (a, b, c) k (m1, m2, m3, m4) ok) :
    Calls Try.prog 99 #[.agg #[.int .i64 a, .int .i64 b, .int .i64 c], .int .i64 k] w fun e w' => (∃ m' : Mt, e = .returned (.tuple #[.agg #[.int .i64 m'.1, .int .i64 m'.2.1, .int .i64 m'.2.2.1, .int .i64 m'.2.2.2], .bool ok]) ∧ (ok = true → m' = (m1, m2, m3, m4))) ∧ Below w.heap.size w w' := by
  have hgd := ind_gd hi
  have hp := ind_pos hi
  have hds : fdisc (a, b, c) = discW a b c := hgd.ds
  obtain ⟨ha, hb', hc⟩ : (-1000000 ≤ a ∧ a ≤ 1000000) ∧ (-1000000 ≤ b ∧ b ≤ 1000000) ∧ (-1000000 ≤ c ∧ c ≤ 1000000) := ⟨hgd.a, hgd.b, hgd.c⟩
  obtain ⟨t, u, o, hup, h⟩ := h
  rw [hds] at hup
  obtain ⟨d, hd⟩ : ∃ d, discW a b c = d := ⟨_, rfl⟩
  have hdd : Hid (∀ w0, Calls Try.prog 74 #[.agg #[.int .i64 a, .int .i64 b, .int .i64 c]] w0 fun en w' => en = .returned (.int .i64 d) ∧ Below w0.heap.size w0 w') := Lib.hid fun w0 => by have h := foDisc_any a b c w0; rwa [hd] at h
  rw [hd] at hup hp
  have haa : Hid (∀ w0, Calls Try.prog 107 #[.int .i64 k] w0 fun en w' => en = .returned (.int .i64 (k.natAbs : Int)) ∧ w0 = w') := Lib.hid fun w0 => l1Abs_any k w0 ⟨by omega, by omega⟩
  obtain ⟨k', hk'⟩ : ∃ k' : Int, (k.natAbs : Int) = k' := ⟨_, rfl⟩
  rw [hk'] at haa hup
  have hpw := Lib.hid fun w0 => unPower_any d k' t u o w0 hp (by omega) (by omega) hup
  have H0 : Hid (Blk w.heap.size 36 #[.int .i64 a, .int .i64 b, .int .i64 c] ((w.alloc (.cells #[.int .i64 a, .int .i64 b, .int .i64 c] 36)).alloc (.cells #[.int .i64 0, .int .i64 0, .int .i64 0, .int .i64 0] 40))) := Lib.hid ((Blk.new w _ _).alloc _)
  have H1 : Hid (Blk (w.heap.size + 1) 40 #[.int .i64 0, .int .i64 0, .int .i64 0, .int .i64 0] ((w.alloc (.cells #[.int .i64 a, .int .i64 b, .int .i64 c] 36)).alloc (.cells #[.int .i64 0, .int .i64 0, .int .i64 0, .int .i64 0] 40))) := Lib.hid (by
    have := Blk.new (w.alloc (.cells #[.int .i64 a, .int .i64 b, .int .i64 c] 36)) 40 #[.int .i64 0, .int .i64 0, .int .i64 0, .int .i64 0]
    simpa using this)
  have HH := Lib.hid h
  have HUP := Lib.hid hup
  have HPD := Lib.hid hp
  clear h hup hp hgd hds hi hd
  go_enter Try.func99, Try.ntmps99
  go_wp2_with fail
  refine (hdd.out _).mono ?_
  rintro e1 w1 ⟨rfl, hB1⟩
  have K0 := Lib.hid (H0.out.below hB1)
  have K1 := Lib.hid (H1.out.below hB1)
  have HB : Hid (Below w.heap.size w w1) := Lib.hid (by repeat (first | with_reducible exact Below.refl _ _ | with_reducible assumption | ((with_reducible refine blA ?_ ?_); (focus (first | omega | (simp <;> omega)))) | (with_reducible refine blD ?_) | (with_reducible refine blN ?_) | ((with_reducible refine blS ?_ ?_); (focus (first | omega | (simp <;> omega)))) | ((with_reducible refine blT (by assumption) ?_ ?_); (focus (first | omega | (simp <;> omega))))))
  clear hB1 H0 H1 hdd
  go_wp2_with (first | (go_at_call 107; refine (haa.out _).mono ?_; rintro e w' ⟨rfl, rfl⟩))
  refine (hpw.out _).mono ?_
  rintro e2 w2 ⟨rfl, hB2⟩
  have K2 := Lib.hid (K0.out.below hB2)
  have K3 := Lib.hid (K1.out.below hB2)
  have HB2 : Hid (Below w.heap.size w w2) := Lib.hid (HB.out.trans (hB2.mono HB.out.size))
  clear hB2 K0 K1 hpw haa HB
  obtain ⟨V, hV, K4, K5, K6, HB3⟩ : ∃ V, w2.alloc (.cells #[.int .i64 t, .int .i64 u] 27) = V ∧ Hid (Blk w.heap.size 36 #[.int .i64 a, .int .i64 b, .int .i64 c] V) ∧ Hid (Blk (w.heap.size + 1) 40 #[.int .i64 0, .int .i64 0, .int .i64 0, .int .i64 0] V) ∧ Hid (Blk w2.heap.size 27 #[.int .i64 t, .int .i64 u] V) ∧ Hid (Below w.heap.size w V) := ⟨_, rfl, Lib.hid (K2.out.alloc _), Lib.hid (K3.out.alloc _), Lib.hid (Blk.new _ _ _), Lib.hid (HB2.out.alloc HB2.out.size _)⟩
  have hzb : w.heap.size + 1 < w2.heap.size := K3.out.lt
  obtain ⟨sb, hsb⟩ : ∃ sb, w2.heap.size = sb := ⟨_, rfl⟩
  rw [hsb] at K6 hzb
  clear K2 K3 HB2
  cases o with
  | false =>
    obtain ⟨hz, rfl⟩ : (m1, m2, m3, m4) = ((0, 0, 0, 0) : Mt) ∧ ok = false := by
      rcases HH.out with ⟨h, _⟩ | ⟨h, _⟩ | ⟨_, h1, h2⟩
      · cases h
      · cases h
      · exact ⟨h1, h2⟩
    simp only [Prod.mk.injEq] at hz
    obtain ⟨rfl, rfl, rfl, rfl⟩ := hz
    have c5 := K5.out.cell
    have f5 := K5.out.froz
    have l5 := K5.out.lt
    have hb1 := HB3
    clear HH K4 K6
    go_wp2_with fail
    try rw [hV]
    refine bodyPost_ret (v := .tuple #[.agg #[.int .i64 0, .int .i64 0, .int .i64 0, .int .i64 0], .bool false]) (by go_light; simp [results, Try.results99, go_sem, *]) rfl ⟨⟨(0, 0, 0, 0), rfl, fun h => by cases h⟩, ?_⟩
    have hq := HB3.out
    try rw [hV]
    repeat (first | with_reducible exact Below.refl _ _ | with_reducible assumption | ((with_reducible refine blA ?_ ?_); (focus (first | omega | (simp <;> omega)))) | (with_reducible refine blD ?_) | (with_reducible refine blN ?_) | ((with_reducible refine blS ?_ ?_); (focus (first | omega | (simp <;> omega)))) | ((with_reducible refine blT (by assumption) ?_ ?_); (focus (first | omega | (simp <;> omega)))))
  | true =>
    have HT : Hid ((m1, m2, m3, m4) = auV (a, b, c) t (sgU k u) ∧ mle 1000000 (auV (a, b, c) t (sgU k u)) ∧ ok = true ∨ ¬ mle 1000000 (auV (a, b, c) t (sgU k u)) ∧ (m1, m2, m3, m4) = ((0, 0, 0, 0) : Mt) ∧ ok = false) := Lib.hid (by
      rcases HH.out with ⟨_, h1, h2, h3⟩ | ⟨_, h1, h2, h3⟩ | ⟨h, _⟩
      · exact .inl ⟨h2, h1, h3⟩
      · exact .inr ⟨h1, h2, h3⟩
      · cases h)
    have hsm : smallB t u = true := by obtain ⟨_, _, _, _, _, _, hsm, _, _⟩ := HUP.out.true HPD.out; exact hsm
    obtain ⟨⟨t1, t2⟩, ⟨u1, u2⟩⟩ := smallB_bd hsm
    clear HH HUP HPD hsm
    obtain ⟨v, hv⟩ : ∃ v, sgU k u = v := ⟨_, rfl⟩
    have hvb : -1000000 ≤ v ∧ v ≤ 1000000 := by unfold sgU at hv; split at hv <;> omega
    rw [hv] at HT
    obtain ⟨c', hc'⟩ : ∃ c', -c = c' := ⟨_, rfl⟩
    have hwc : wrap64 (-c) = c' := by rw [← hc']; unfold wrap64; omega
    obtain ⟨x1, x2, x3, x4, x5, x6, x7⟩ := auW (c := c') ha hb' (by omega) ⟨t1, t2⟩ hvb
    obtain ⟨q1, hq1⟩ : ∃ q, (t - b * v).tdiv 2 = q := ⟨_, rfl⟩
    obtain ⟨q2, hq2⟩ : ∃ q, c' * v = q := ⟨_, rfl⟩
    obtain ⟨q3, hq3⟩ : ∃ q, a * v = q := ⟨_, rfl⟩
    obtain ⟨q4, hq4⟩ : ∃ q, (t + b * v).tdiv 2 = q := ⟨_, rfl⟩
    have HE : Hid (auV (a, b, c) t v = (q1, q2, q3, q4)) := Lib.hid (by
      simp only [auV]
      rw [hq1, hc', hq2, hq3, hq4])
    rw [HE.out] at HT
    rw [hq1] at x3
    rw [hq2] at x4
    rw [hq3] at x5
    rw [hq4] at x7
    have c4 := K4.out.cell
    have l4 := K4.out.lt
    have c6 := K6.out.cell
    have f6 := K6.out.froz
    have l6 := K6.out.lt
    by_cases hk0 : k < 0
    · have hkd : decide (k < 0) = true := decide_eq_true hk0
      have hwu : wrap64 (-u) = v := by rw [← hv]; unfold sgU; rw [if_pos hk0]; unfold wrap64; omega
      obtain ⟨V6, hV6, k4, k5, k6, hb⟩ : ∃ V6, V.setCell ⟨sb, 1, none⟩ (.int .i64 v) = V6 ∧ Hid (Blk w.heap.size 36 #[.int .i64 a, .int .i64 b, .int .i64 c] V6) ∧ Hid (Blk (w.heap.size + 1) 40 #[.int .i64 0, .int .i64 0, .int .i64 0, .int .i64 0] V6) ∧ Hid (Blk sb 27 #[.int .i64 t, .int .i64 v] V6) ∧ Hid (Below w.heap.size w V6) :=
        ⟨_, rfl, Lib.hid (K4.out.grown (grown_set1 _ _ _ _) (by simp <;> omega)), Lib.hid (K5.out.grown (grown_set1 _ _ _ _) (by simp <;> omega)), Lib.hid (by have h := K6.out.set1 1 (.int .i64 v); simpa using h), Lib.hid (below_grown HB3.out (grown_set1 _ _ _ _) (by omega) HB3.out.size)⟩
      clear hk0 hv hvb ha hb' hc hc' hk t1 t2 u1 u2
      clear K4 K5 K6 HB3
      have c4' := k4.out.cell
      have l4' := k4.out.lt
      have c6' := k6.out.cell
      have l6' := k6.out.lt
      have hch := Lib.hid fun w0 => sMatrix_any q1 q2 q3 q4 w0
      have hok : mB q1 q2 q3 q4 = ok := by
        rcases HT.out with ⟨_, h1, rfl⟩ | ⟨h1, _, rfl⟩
        · exact mB_mle.2 h1
        · cases hmb : mB q1 q2 q3 q4 with
          | true => exact absurd (mB_mle.1 hmb) h1
          | false => rfl
      have HRT : Hid (ok = true → ((q1, q2, q3, q4) : Mt) = (m1, m2, m3, m4)) := Lib.hid fun h => by
        rcases HT.out with ⟨h1, _, _⟩ | ⟨_, _, h1⟩
        · exact h1.symm
        · rw [h] at h1; cases h1
      rw [hok] at hch
      clear HT HE hok
      go_wp2_with fail
      try rw [hV]
      try rw [hV6]
      obtain ⟨Y, hY, k7, y7, hb7⟩ : ∃ Y, V6.alloc (.cells #[.int .i64 q1, .int .i64 q2, .int .i64 q3, .int .i64 q4] 40) = Y ∧ Hid (Blk (w.heap.size + 1) 40 #[.int .i64 0, .int .i64 0, .int .i64 0, .int .i64 0] Y) ∧ Hid (Blk V6.heap.size 40 #[.int .i64 q1, .int .i64 q2, .int .i64 q3, .int .i64 q4] Y) ∧ Hid (Below w.heap.size w Y) := ⟨_, rfl, Lib.hid (k5.out.alloc _), Lib.hid (Blk.new _ _ _), Lib.hid (hb.out.alloc hb.out.size _)⟩
      try rw [hY]
      have c7 := y7.out.cell
      have l7 := y7.out.lt
      refine wp_region_past_tail 3 (by kernel_rfl) (by kernel_rfl) ?_
      simp only [List.take_succ_cons, List.take_zero, List.drop_succ_cons, List.drop_zero]
      repeat (first | go_big_quiet_skip | (go_big_quiet_want; go_big_quiet_op; first | go_big_quiet_on | (apply Exists.intro; refine ⟨fun _ => ?_, ?_⟩; (focus (first | (go_at_call 81; exact past_of (hch.out _)))); go_big_quiet_on)))
      refine wpQuiet_nil ?_
      intro w1 hw'
      have hB1 := past_below hw'
      clear hw'
      obtain ⟨hC1, hF1⟩ := bcell hB1
      have hS1 := hB1.size
      (try simp at hS1)
      (try have hS1_w0 : w.heap.size < w1.heap.size := by omega)
      (try have hS1_w1 : w.heap.size + 1 < w1.heap.size := by omega)
      (try have hS1_w2 : w.heap.size + 1 + 1 < w1.heap.size := by omega)
      (try have hS1_w3 : w.heap.size + 1 + 1 + 1 < w1.heap.size := by omega)
      (try have hS1_w4 : w.heap.size + 1 + 1 + 1 + 1 < w1.heap.size := by omega)
      have k8 := k7.out.below hB1
      have HB8 := hb7.out.trans (hB1.mono hb7.out.size)
      have c8 := k8.cell
      have f8 := k8.froz
      have l8 := k8.lt
      obtain ⟨w9, e9, k9, z9, g9⟩ := k8.set4 (.int .i64 q1) (.int .i64 q2) (.int .i64 q3) (.int .i64 q4)
      have c9 := k9.cell
      have HB9 := Lib.hid (below_grown HB8 g9 (by omega) HB8.size)
      clear k8 HB8 hB1 hC1 hF1 k9 z9 g9 k7 y7 hb7 c7 l7
      go_wp2_with fail
      refine bodyPost_ret (v := .tuple #[.agg #[.int .i64 q1, .int .i64 q2, .int .i64 q3, .int .i64 q4], .bool ok]) (by go_light; simp [results, Try.results99, go_sem, *]) rfl ⟨⟨(q1, q2, q3, q4), rfl, HRT.out⟩, HB9.out⟩
    · have hkd : decide (k < 0) = false := decide_eq_false hk0
      obtain rfl : u = v := by rw [← hv]; unfold sgU; rw [if_neg hk0]
      clear hk0 hv hvb ha hb' hc hc' hk t1 t2 u1 u2
      have k5 := K5
      have hb := HB3
      have hch := Lib.hid fun w0 => sMatrix_any q1 q2 q3 q4 w0
      have hok : mB q1 q2 q3 q4 = ok := by
        rcases HT.out with ⟨_, h1, rfl⟩ | ⟨h1, _, rfl⟩
        · exact mB_mle.2 h1
        · cases hmb : mB q1 q2 q3 q4 with
          | true => exact absurd (mB_mle.1 hmb) h1
          | false => rfl
      have HRT : Hid (ok = true → ((q1, q2, q3, q4) : Mt) = (m1, m2, m3, m4)) := Lib.hid fun h => by
        rcases HT.out with ⟨h1, _, _⟩ | ⟨_, _, h1⟩
        · exact h1.symm
        · rw [h] at h1; cases h1
      rw [hok] at hch
      clear HT HE hok
      go_wp2_with fail
      try rw [hV]
      skip
      obtain ⟨Y, hY, k7, y7, hb7⟩ : ∃ Y, V.alloc (.cells #[.int .i64 q1, .int .i64 q2, .int .i64 q3, .int .i64 q4] 40) = Y ∧ Hid (Blk (w.heap.size + 1) 40 #[.int .i64 0, .int .i64 0, .int .i64 0, .int .i64 0] Y) ∧ Hid (Blk V.heap.size 40 #[.int .i64 q1, .int .i64 q2, .int .i64 q3, .int .i64 q4] Y) ∧ Hid (Below w.heap.size w Y) := ⟨_, rfl, Lib.hid (k5.out.alloc _), Lib.hid (Blk.new _ _ _), Lib.hid (hb.out.alloc hb.out.size _)⟩
      try rw [hY]
      have c7 := y7.out.cell
      have l7 := y7.out.lt
      refine wp_region_past_tail 3 (by kernel_rfl) (by kernel_rfl) ?_
      simp only [List.take_succ_cons, List.take_zero, List.drop_succ_cons, List.drop_zero]
      repeat (first | go_big_quiet_skip | (go_big_quiet_want; go_big_quiet_op; first | go_big_quiet_on | (apply Exists.intro; refine ⟨fun _ => ?_, ?_⟩; (focus (first | (go_at_call 81; exact past_of (hch.out _)))); go_big_quiet_on)))
      refine wpQuiet_nil ?_
      intro w2 hw'
      have hB2 := past_below hw'
      clear hw'
      obtain ⟨hC2, hF2⟩ := bcell hB2
      have hS2 := hB2.size
      (try simp at hS2)
      (try have hS2_w0 : w.heap.size < w2.heap.size := by omega)
      (try have hS2_w1 : w.heap.size + 1 < w2.heap.size := by omega)
      (try have hS2_w2 : w.heap.size + 1 + 1 < w2.heap.size := by omega)
      (try have hS2_w3 : w.heap.size + 1 + 1 + 1 < w2.heap.size := by omega)
      (try have hS2_w4 : w.heap.size + 1 + 1 + 1 + 1 < w2.heap.size := by omega)
      (try have hS2_1 : w1.heap.size < w2.heap.size := by omega)
      (try have hS2_1' : w1.heap.size + 1 < w2.heap.size := by omega)
      have k8 := k7.out.below hB2
      have HB8 := hb7.out.trans (hB2.mono hb7.out.size)
      have c8 := k8.cell
      have f8 := k8.froz
      have l8 := k8.lt
      obtain ⟨w9, e9, k9, z9, g9⟩ := k8.set4 (.int .i64 q1) (.int .i64 q2) (.int .i64 q3) (.int .i64 q4)
      have c9 := k9.cell
      have HB9 := Lib.hid (below_grown HB8 g9 (by omega) HB8.size)
      clear k8 HB8 hB2 hC2 hF2 k9 z9 g9 k7 y7 hb7 c7 l7
      go_wp2_with fail
      refine bodyPost_ret (v := .tuple #[.agg #[.int .i64 q1, .int .i64 q2, .int .i64 q3, .int .i64 q4], .bool ok]) (by go_light; simp [results, Try.results99, go_sem, *]) rfl ⟨⟨(q1, q2, q3, q4), rfl, HRT.out⟩, HB9.out⟩
end Go.Proofs.Ytemnkfigjpphgaa
