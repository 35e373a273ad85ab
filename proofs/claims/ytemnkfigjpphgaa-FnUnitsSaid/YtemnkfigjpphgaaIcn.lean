/-
  The matrix that leads from a form to another in its class, walked in the program.
-/
import Derived.Test.YtemnkfigjpphgaaIcm
namespace Go.Proofs.Ytemnkfigjpphgaa
open Go.RowKit
attribute [local simp, local go_sem] past_cell past_frozen past_tape
set_option maxRecDepth 100000 in
set_option maxHeartbeats 8000000 in
theorem implCycleMatrix_any (a b c a' b' c' : Int) (w : World) : Calls Try.prog 20 #[.agg #[.int .i64 a, .int .i64 b, .int .i64 c], .agg #[.int .i64 a', .int .i64 b', .int .i64 c']] w fun e w' => (∃ (m : Mt) (ok : Bool), e = .returned (.tuple #[.agg #[.int .i64 m.1, .int .i64 m.2.1, .int .i64 m.2.2.1, .int .i64 m.2.2.2], .bool ok]) ∧ CM (a, b, c) (a', b', c') m ok) ∧ Below w.heap.size w w' := by
  go_enter Try.func20, Try.ntmps20
  go_wp2_with fail
  refine (implReduce_any a b c _).mono ?_
  rintro e1 x1 ⟨⟨⟨g1, g2, g3⟩, ⟨m1, m2, m3, m4⟩, o1, rfl, hR1⟩, hB1⟩
  obtain ⟨hC1, hF1⟩ := bcell hB1
  have hz1 := hB1.size
  (try simp at hz1)
  have l1 : w.heap.size < x1.heap.size := by omega
  have l1' : w.heap.size + 1 < x1.heap.size := by omega
  have l1'' : w.heap.size + 1 + 1 < x1.heap.size := by omega
  have hr0 : Blk (w.heap.size + 1 + 1) 40 #[.int .i64 0, .int .i64 0, .int .i64 0, .int .i64 0] x1 := by
    have := (Blk.new ((w.alloc (.cells #[.int .i64 a, .int .i64 b, .int .i64 c] 36)).alloc (.cells #[.int .i64 a', .int .i64 b', .int .i64 c'] 36)) 40 #[.int .i64 0, .int .i64 0, .int .i64 0, .int .i64 0]).below hB1
    simpa using this
  have HR1 := Lib.hid hR1
  have HB1 := Lib.hid (show Below w.heap.size w x1 by repeat (first | with_reducible exact Below.refl _ _ | with_reducible assumption | ((with_reducible refine blA ?_ ?_); (focus (first | omega | (simp <;> omega)))) | (with_reducible refine blD ?_) | (with_reducible refine blN ?_) | ((with_reducible refine blS ?_ ?_); (focus (first | omega | (simp <;> omega)))) | ((with_reducible refine blT (by assumption) ?_ ?_); (focus (first | omega | (simp <;> omega))))))
  clear hR1
  go_wp2_with fail
  refine (implReduce_any a' b' c' _).mono ?_
  rintro e2 x2 ⟨⟨⟨h1, h2, h3⟩, ⟨n1, n2, n3, n4⟩, o2, rfl, hR2⟩, hB2⟩
  have hz2 := hB2.size
  (try simp at hz2)
  have HR2 := Lib.hid hR2
  have hB0 : Below w.heap.size w x2 := by have hX := HB1.out; repeat (first | with_reducible exact Below.refl _ _ | with_reducible assumption | ((with_reducible refine blA ?_ ?_); (focus (first | omega | (simp <;> omega)))) | (with_reducible refine blD ?_) | (with_reducible refine blN ?_) | ((with_reducible refine blS ?_ ?_); (focus (first | omega | (simp <;> omega)))) | ((with_reducible refine blT (by assumption) ?_ ?_); (focus (first | omega | (simp <;> omega)))))
  have hK : KM w ((x2.alloc (.cells #[.int .i64 h1, .int .i64 h2, .int .i64 h3] 36)).alloc (.cells #[.int .i64 n1, .int .i64 n2, .int .i64 n3, .int .i64 n4] 40)) (w.heap.size + 1 + 1) x1.heap.size x2.heap.size (g1, g2, g3) (m1, m2, m3, m4) (h1, h2, h3) (n1, n2, n3, n4) := by
    have hx : Blk x1.heap.size 36 #[.int .i64 g1, .int .i64 g2, .int .i64 g3] x2 := ((Blk.new x1 _ _).alloc _).below hB2
    have hm : Blk (x1.heap.size + 1) 40 #[.int .i64 m1, .int .i64 m2, .int .i64 m3, .int .i64 m4] x2 := by
      have := (Blk.new (x1.alloc (.cells #[.int .i64 g1, .int .i64 g2, .int .i64 g3] 36)) 40 #[.int .i64 m1, .int .i64 m2, .int .i64 m3, .int .i64 m4]).below hB2
      simpa using this
    have hr2 := ((hr0.alloc (.cells #[.int .i64 g1, .int .i64 g2, .int .i64 g3] 36)).alloc (.cells #[.int .i64 m1, .int .i64 m2, .int .i64 m3, .int .i64 m4] 40)).below hB2
    refine ⟨(hx.alloc _).alloc _, (hm.alloc _).alloc _, (Blk.new x2 _ _).alloc _, ?_, (hr2.alloc _).alloc _, ?_, by omega⟩
    · have := Blk.new (x2.alloc (.cells #[.int .i64 h1, .int .i64 h2, .int .i64 h3] 36)) 40 #[.int .i64 n1, .int .i64 n2, .int .i64 n3, .int .i64 n4]
      simpa using this
    · exact (hB0.alloc (by omega) _).alloc (by simp; omega) _
  have hne2 : x1.heap.size < x2.heap.size := by omega
  have HK := Lib.hid hK
  obtain ⟨X, hX⟩ : ∃ X, x1.heap.size = X := ⟨_, rfl⟩
  obtain ⟨Y, hY⟩ : ∃ Y, x2.heap.size = Y := ⟨_, rfl⟩
  rw [hX, hY] at HK
  obtain ⟨V, hV⟩ : ∃ V, (x2.alloc (.cells #[.int .i64 h1, .int .i64 h2, .int .i64 h3] 36)).alloc (.cells #[.int .i64 n1, .int .i64 n2, .int .i64 n3, .int .i64 n4] 40) = V := ⟨_, rfl⟩
  rw [hV] at HK
  clear hR2 hB1 hC1 hF1 hB2 hK hr0 hz1 hz2 l1 l1' l1'' hB0 HB1 hne2
  have cr : ∀ o, V.cell? ⟨w.heap.size + 1 + 1, o, none⟩ = (#[.int .i64 0, .int .i64 0, .int .i64 0, .int .i64 0] : Array Value)[o]? := HK.out.r.cell
  have fr : ∀ o, V.frozen? ⟨w.heap.size + 1 + 1, o, none⟩ = false := HK.out.r.froz
  have hbad : ∀ (z : Bool), z = (o1 && o2) → (z = false ∨ ¬ InC (isqrt (discW a b c)) (g1, g2, g3) (h1, h2, h3)) → CM (a, b, c) (a', b', c') (0, 0, 0, 0) false := fun z hz h => ⟨_, _, _, _, _, _, HR1.out, HR2.out, .inl ⟨by rw [← hz]; exact h, rfl, rfl⟩⟩
  have HBAD := Lib.hid hbad
  clear hbad
  cases o1 with
  | false =>
    have hb := HK.out.b
    go_wp2_with fail
    try rw [hV]
    refine wp_region_past (by kernel_rfl) (by kernel_rfl) ?_
    repeat (first | go_big_quiet_skip | (go_big_quiet_want; go_big_quiet_op; first | go_big_quiet_on | (apply Exists.intro; refine ⟨fun _ => ?_, ?_⟩; (focus (fail)); go_big_quiet_on)))
    refine wpQuiet_nil ?_
    intro w1 hw'
    have hB1 := past_below hw'
    clear hw'
    obtain ⟨hC1, hF1⟩ := bcell hB1
    have hS1 := hB1.size
    (try simp at hS1)
    (try have hS1_w0 : w.heap.size < w1.heap.size := by omega)
    (try have hS1_w1 : w.heap.size + 1 < w1.heap.size := by omega)
    (try have hS1_w2 : w.heap.size + 1 + 1 < w1.heap.size := by omega)
    (try have hS1_w3 : w.heap.size + 1 + 1 + 1 < w1.heap.size := by omega)
    (try have hS1_w4 : w.heap.size + 1 + 1 + 1 + 1 < w1.heap.size := by omega)
    have cr1 : ∀ o, w1.cell? ⟨w.heap.size + 1 + 1, o, none⟩ = (#[.int .i64 0, .int .i64 0, .int .i64 0, .int .i64 0] : Array Value)[o]? := fun o => by rw [hC1 _ _ HK.out.r.lt]; exact cr o
    have fr1 : ∀ o, w1.frozen? ⟨w.heap.size + 1 + 1, o, none⟩ = false := fun o => by rw [hF1 _ _ HK.out.r.lt]; exact fr o
    go_wp2_with fail
    refine bodyPost_ret (v := .tuple #[.agg #[.int .i64 0, .int .i64 0, .int .i64 0, .int .i64 0], .bool false]) (by go_light; simp [results, Try.results20, go_sem, *]) rfl ⟨⟨(0, 0, 0, 0), false, rfl, HBAD.out _ rfl (.inl rfl)⟩, ?_⟩
    have hq := HK.out.b.trans (hB1.mono HK.out.b.size)
    repeat (first | with_reducible exact Below.refl _ _ | with_reducible assumption | ((with_reducible refine blA ?_ ?_); (focus (first | omega | (simp <;> omega)))) | (with_reducible refine blD ?_) | (with_reducible refine blN ?_) | ((with_reducible refine blS ?_ ?_); (focus (first | omega | (simp <;> omega)))) | ((with_reducible refine blT (by assumption) ?_ ?_); (focus (first | omega | (simp <;> omega)))))
  | true =>
  cases o2 with
  | false =>
    have hb := HK.out.b
    go_wp2_with fail
    try rw [hV]
    refine wp_region_past (by kernel_rfl) (by kernel_rfl) ?_
    repeat (first | go_big_quiet_skip | (go_big_quiet_want; go_big_quiet_op; first | go_big_quiet_on | (apply Exists.intro; refine ⟨fun _ => ?_, ?_⟩; (focus (fail)); go_big_quiet_on)))
    refine wpQuiet_nil ?_
    intro w2 hw'
    have hB2 := past_below hw'
    clear hw'
    obtain ⟨hC2, hF2⟩ := bcell hB2
    have hS2 := hB2.size
    (try simp at hS2)
    (try have hS2_w0 : w.heap.size < w2.heap.size := by omega)
    (try have hS2_w1 : w.heap.size + 1 < w2.heap.size := by omega)
    (try have hS2_w2 : w.heap.size + 1 + 1 < w2.heap.size := by omega)
    (try have hS2_w3 : w.heap.size + 1 + 1 + 1 < w2.heap.size := by omega)
    (try have hS2_w4 : w.heap.size + 1 + 1 + 1 + 1 < w2.heap.size := by omega)
    (try have hS2_1 : w1.heap.size < w2.heap.size := by omega)
    (try have hS2_1' : w1.heap.size + 1 < w2.heap.size := by omega)
    have cr1 : ∀ o, w2.cell? ⟨w.heap.size + 1 + 1, o, none⟩ = (#[.int .i64 0, .int .i64 0, .int .i64 0, .int .i64 0] : Array Value)[o]? := fun o => by rw [hC2 _ _ HK.out.r.lt]; exact cr o
    have fr1 : ∀ o, w2.frozen? ⟨w.heap.size + 1 + 1, o, none⟩ = false := fun o => by rw [hF2 _ _ HK.out.r.lt]; exact fr o
    go_wp2_with fail
    refine bodyPost_ret (v := .tuple #[.agg #[.int .i64 0, .int .i64 0, .int .i64 0, .int .i64 0], .bool false]) (by go_light; simp [results, Try.results20, go_sem, *]) rfl ⟨⟨(0, 0, 0, 0), false, rfl, HBAD.out _ rfl (.inl rfl)⟩, ?_⟩
    have hq := HK.out.b.trans (hB2.mono HK.out.b.size)
    repeat (first | with_reducible exact Below.refl _ _ | with_reducible assumption | ((with_reducible refine blA ?_ ?_); (focus (first | omega | (simp <;> omega)))) | (with_reducible refine blD ?_) | (with_reducible refine blN ?_) | ((with_reducible refine blS ?_ ?_); (focus (first | omega | (simp <;> omega)))) | ((with_reducible refine blT (by assumption) ?_ ?_); (focus (first | omega | (simp <;> omega)))))
  | true =>
  obtain ⟨_, q1, q2, q3, q4, _⟩ := HR1.out.good rfl
  obtain ⟨_, _, _, t3, t4, _⟩ := HR2.out.good rfl
  obtain ⟨n, hn⟩ := ci_of q1 q2
  obtain ⟨r, hr⟩ : ∃ r, isqrt (discW a b c) = r := ⟨_, rfl⟩
  obtain ⟨d, hd⟩ : ∃ d, discW a b c = d := ⟨_, rfl⟩
  have HRR := Lib.hid hr
  rw [hr, hd] at hn
  have HN := Lib.hid hn
  have HM := Lib.hid q3
  have HM1 := Lib.hid q4
  have HNN := Lib.hid t3
  have HNN1 := Lib.hid t4
  have hcyc := Lib.hid fun w0 => cycle_any r d n g1 g2 g3 w0 hn
  have hlen : Hid ((cyc r n (g1, g2, g3)).length ≤ 1000000) := Lib.hid (by rw [cyc_length]; have := HN.out.n2; omega)
  clear q1 q2 q3 q4 t3 t4 hn hr hd
  obtain ⟨L, hL⟩ : ∃ L, cyc r n (g1, g2, g3) = L := ⟨_, rfl⟩
  rw [hL] at hlen
  simp only [hL] at hcyc
  have HL := Lib.hid hL
  clear hL
  have cx := HK.out.x.cell
  have cy := HK.out.y.cell
  have lx := HK.out.x.lt
  have ly := HK.out.y.lt
  simp only at cx cy
  go_wp2_with fail
  try rw [hV]
  clear hV
  refine region_mix 12 [0, 1, 2, 3, 4, 5, 6, 7, 9] [(false, 8), (false, 10), (true, 11)] (by kernel_rfl) (by kernel_rfl) (by kernel_rfl) ?_
  apply Exists.intro
  refine ⟨fun w0 hw0 => ?_, ?_⟩
  · obtain ⟨hC0, hF0⟩ := bcell hw0
    have hS0 := hw0.size
    (try simp at hS0)
    (try have hS0_w0 : w.heap.size < w0.heap.size := by omega)
    (try have hS0_w1 : w.heap.size + 1 < w0.heap.size := by omega)
    (try have hS0_w2 : w.heap.size + 1 + 1 < w0.heap.size := by omega)
    (try have hS0_w3 : w.heap.size + 1 + 1 + 1 < w0.heap.size := by omega)
    (try have hS0_w4 : w.heap.size + 1 + 1 + 1 + 1 < w0.heap.size := by omega)
    (try have hL0_w0 : w.heap.size ≤ w0.heap.size := by omega)
    (try have hL0_w1 : w.heap.size + 1 ≤ w0.heap.size := by omega)
    (try have hL0_w2 : w.heap.size + 1 + 1 ≤ w0.heap.size := by omega)
    (try have hL0_w3 : w.heap.size + 1 + 1 + 1 ≤ w0.heap.size := by omega)
    (try have hL0_w : w.heap.size ≤ w0.heap.size + 1 := by omega)
    (try have hM0_1 : w.heap.size < w0.heap.size + 1 := by omega)
    (try have hM0_2 : w.heap.size < w0.heap.size + 1 + 1 := by omega)
    (try have hM0_3 : w.heap.size < w0.heap.size + 1 + 1 + 1 := by omega)
    have hS0x : X < w0.heap.size := (by omega); have hS0y : Y < w0.heap.size := (by omega)
    simp only [List.filterMap_cons, List.filterMap_nil, List.getElem?_cons_zero, List.getElem?_cons_succ]
    show wpQuiet _ _ _ _ [_, _, _, _, _, _, _, _, _] _
    repeat (first | go_big_quiet_skip | (go_big_quiet_want; go_big_quiet_op; first | go_big_quiet_on | (apply Exists.intro; refine ⟨fun _ => ?_, ?_⟩; (focus (fail)); go_big_quiet_on)))
    refine wpQuiet_nil ?_
    rfl
  intro W hW hWz
  simp only [List.filterMap_cons, List.filterMap_nil, List.getElem?_cons_zero, List.getElem?_cons_succ, Option.map_some, List.drop_succ_cons, List.drop_zero]
  show effW _ _ _ _ [(false, _), (false, _), (true, _)] _ _
  refine effM_of fun wa hBa => ?_
  have hza := hBa.size
  try simp at hza
  go_wp2_with fail
  refine (hcyc.out _).mono ?_
  rintro e3 wb ⟨⟨v, rfl, hr⟩, hBb⟩
  obtain ⟨va, vc, hv, hvc, _, hsee⟩ := hr.sees c3_len
  subst hv
  have HS := Lib.hid hsee
  have hzb := hBb.size
  clear hsee hr hvc
  go_wp2
  refine effQ_of rfl (by repeat (first | with_reducible exact Below.refl _ _ | with_reducible assumption | ((with_reducible refine blA ?_ ?_); (focus (first | omega | (simp <;> omega)))) | (with_reducible refine blD ?_) | (with_reducible refine blN ?_) | ((with_reducible refine blS ?_ ?_); (focus (first | omega | (simp <;> omega)))) | ((with_reducible refine blT (by assumption) ?_ ?_); (focus (first | omega | (simp <;> omega)))))) ?_
  refine effM_of fun wc hBc => ?_
  have hzc := hBc.size
  try simp at hzc
  go_wp2_with fail
  refine (hasForm_any L (h1, h2, h3) va vc _ _ (HS.out.below hBc) hlen.out).mono ?_
  rintro e4 wd ⟨rfl, hBd⟩
  have hzd := hBd.size
  go_wp2
  refine effQ_of rfl (by repeat (first | with_reducible exact Below.refl _ _ | with_reducible assumption | ((with_reducible refine blA ?_ ?_); (focus (first | omega | (simp <;> omega)))) | (with_reducible refine blD ?_) | (with_reducible refine blN ?_) | ((with_reducible refine blS ?_ ?_); (focus (first | omega | (simp <;> omega)))) | ((with_reducible refine blT (by assumption) ?_ ?_); (focus (first | omega | (simp <;> omega)))))) ?_
  refine effQuiet (by kernel_rfl) ?_
  apply Exists.intro
  refine ⟨fun w0 hw0 => ?_, ?_⟩
  · repeat (first | go_big_quiet_skip | (go_big_quiet_want; go_big_quiet_op; first | go_big_quiet_on | (apply Exists.intro; refine ⟨fun _ => ?_, ?_⟩; (focus (fail)); go_big_quiet_on)))
    refine wpQuiet_nil ?_
    rfl
  intro wl hwl
  have hBl := past_below hwl
  clear hwl
  have hzl := hBl.size
  have hVl : Below V.heap.size V wl := by repeat (first | with_reducible exact Below.refl _ _ | with_reducible assumption | ((with_reducible refine blA ?_ ?_); (focus (first | omega | (simp <;> omega)))) | (with_reducible refine blD ?_) | (with_reducible refine blN ?_) | ((with_reducible refine blS ?_ ?_); (focus (first | omega | (simp <;> omega)))) | ((with_reducible refine blT (by assumption) ?_ ?_); (focus (first | omega | (simp <;> omega)))))
  have HK2 := Lib.hid (HK.out.below hVl)
  clear hBl hBd hBc hBb hBa hW hWz hza hzb hzc hzd hzl hVl HK HS cx cy lx ly cr fr
  obtain ⟨hs, hhs⟩ : ∃ hs, decide ((h1, h2, h3) ∈ L) = hs := ⟨_, rfl⟩
  have cr : ∀ o, wl.cell? ⟨w.heap.size + 1 + 1, o, none⟩ = (#[.int .i64 0, .int .i64 0, .int .i64 0, .int .i64 0] : Array Value)[o]? := HK2.out.r.cell
  have fr : ∀ o, wl.frozen? ⟨w.heap.size + 1 + 1, o, none⟩ = false := HK2.out.r.froz
  cases hs with
  | false =>
    have hHI := HBAD.out _ rfl (.inr (by rw [HRR.out, inC_cyc HN.out, HL.out]; exact of_decide_eq_false hhs))
    have HHI := Lib.hid hHI
    have HB := Lib.hid HK2.out.b
    clear hHI
    go_wp2_with fail
    refine bodyPost_ret (v := .tuple #[.agg #[.int .i64 0, .int .i64 0, .int .i64 0, .int .i64 0], .bool false]) (by go_light; simp [results, Try.results20, go_sem, *]) rfl ⟨⟨(0, 0, 0, 0), false, rfl, HHI.out⟩, ?_⟩
    have hq := HB.out
    repeat (first | with_reducible exact Below.refl _ _ | with_reducible assumption | ((with_reducible refine blA ?_ ?_); (focus (first | omega | (simp <;> omega)))) | (with_reducible refine blD ?_) | (with_reducible refine blN ?_) | ((with_reducible refine blS ?_ ?_); (focus (first | omega | (simp <;> omega)))) | ((with_reducible refine blT (by assumption) ?_ ?_); (focus (first | omega | (simp <;> omega)))))
  | true =>
    have hin : InC r (g1, g2, g3) (h1, h2, h3) := by rw [inC_cyc HN.out, HL.out]; exact of_decide_eq_true hhs
    have hst : ∃ i, i ≤ 2100 ∧ nbn r i (g1, g2, g3) = (h1, h2, h3) := by
      obtain ⟨i, hi, he⟩ := mem_cyc.1 ((inC_cyc HN.out).1 hin)
      exact ⟨i, by have := HN.out.n2; omega, he⟩
    have HST := Lib.hid hst
    have HFIN : Hid (∀ P ok2 m ok, Wk r (h1, h2, h3) (g1, g2, g3) (m1, m2, m3, m4) P ok2 → ((¬ (ok2 = true ∧ mle 1000000 (mm P (minv (n1, n2, n3, n4)))) ∧ m = (0, 0, 0, 0) ∧ ok = false) ∨ (ok2 = true ∧ mle 1000000 (mm P (minv (n1, n2, n3, n4))) ∧ m = mm P (minv (n1, n2, n3, n4)) ∧ ok = true)) → CM (a, b, c) (a', b', c') m ok) :=
      Lib.hid fun P ok2 m ok hw h => ⟨_, _, _, _, _, _, HR1.out, HR2.out, .inr ⟨rfl, by rw [HRR.out]; exact hin, P, ok2, by rw [HRR.out]; exact hw, h⟩⟩
    have HHS := Lib.hid hhs
    clear HL hlen hcyc HBAD HR1 HR2 HRR hin hst
    go_wp2_with fail
    clear hhs cr fr
    have HPD : Hid (Cy r (g1, g2, g3) ∧ Gd r d (g1, g2, g3)) := Lib.hid ⟨HN.out.cy, HN.out.gd⟩
    clear HHS HN
    go_loopw [] (fun wr => ∃ (x : Fm) (M : Mt), Hid (KM w wr (w.heap.size + 1 + 1) X Y x M (h1, h2, h3) (n1, n2, n3, n4)) ∧ Hid (Cy r x ∧ Gd r d x) ∧ Hid (∃ i, i ≤ 2100 ∧ nbn r i x = (h1, h2, h3)) ∧ Hid (mle 1000000 M) ∧ Hid (mdet M = 1) ∧ Hid (∀ P ok2, Wk r (h1, h2, h3) x M P ok2 → Wk r (h1, h2, h3) (g1, g2, g3) (m1, m2, m3, m4) P ok2)) (fun wr => dst r (h1, h2, h3) (intOf ((wr.cell? ⟨X, 0, none⟩).getD undef), intOf ((wr.cell? ⟨X, 1, none⟩).getD undef), intOf ((wr.cell? ⟨X, 2, none⟩).getD undef)))
    case atStart =>
      exact ⟨(g1, g2, g3), (m1, m2, m3, m4), HK2, HPD, HST, HM, HM1, Lib.hid fun _ _ h => h⟩
    case round =>
      obtain ⟨⟨x1', x2', x3'⟩, ⟨p, q, s, t⟩, hK, hP, hS, hM, hM1, hD⟩ := hrel
      clear HK2 HPD HST HM HM1
      have cx := hK.out.x.cell
      have cy := hK.out.y.cell
      have lx := hK.out.x.lt
      have ly := hK.out.y.lt
      simp only at cx cy
      by_cases hend : (x1', x2', x3') = (h1, h2, h3)
      · have HW := Lib.hid (hD.out _ _ (Wk.stop hend))
        simp only [Prod.mk.injEq] at hend
        obtain ⟨rfl, rfl, rfl⟩ := hend
        have cm := hK.out.m.cell
        have cn := hK.out.n.cell
        have lm := hK.out.m.lt
        have ln := hK.out.n.lt
        simp only at cm cn
        have hinv := Lib.hid fun w0 => inverse_minv (n1, n2, n3, n4) w0 HNN.out HNN1.out
        have htim := Lib.hid fun w0 => times_mm (p, q, s, t) (minv (n1, n2, n3, n4)) w0 hM.out (mle_minv HNN.out)
        have hfin := HFIN.out (p, q, s, t) true
        obtain ⟨⟨Q1, Q2, Q3, Q4⟩, hQ⟩ : ∃ Q, mm (p, q, s, t) (minv (n1, n2, n3, n4)) = Q := ⟨_, rfl⟩
        obtain ⟨⟨V1, V2, V3, V4⟩, hV⟩ : ∃ Q, minv (n1, n2, n3, n4) = Q := ⟨_, rfl⟩
        rw [hQ] at htim hfin
        rw [hV] at hinv htim
        simp only at hinv htim
        have HFN := Lib.hid hfin
        clear hQ hV hfin hD hS hP
        cases hmb : mB Q1 Q2 Q3 Q4 with
        | false =>
          have hch := Lib.hid fun w1 => checked_no Q1 Q2 Q3 Q4 w1 hmb
          have HC := Lib.hid (HFN.out (0, 0, 0, 0) false HW.out (.inl ⟨fun h => (by have := (mB_mle (M := (Q1, Q2, Q3, Q4))).2 h.2; rw [hmb] at this; cases this), rfl, rfl⟩))
          clear hmb HFN HW
          go_wp2_with fail
          refine wp_region_past_tail 7 (by kernel_rfl) (by kernel_rfl) ?_
          simp only [List.take_succ_cons, List.take_zero, List.drop_succ_cons, List.drop_zero]
          repeat (first | go_big_quiet_skip | (go_big_quiet_want; go_big_quiet_op; first | go_big_quiet_on | (apply Exists.intro; refine ⟨fun _ => ?_, ?_⟩; (focus (first | (go_at_call 72; exact past_of (hinv.out _)) | (go_at_call 69; exact past_of (htim.out _)) | (go_at_call 71; exact past_of (hch.out _)))); go_big_quiet_on)))
          refine wpQuiet_nil ?_
          intro w3 hw'
          have hB3 := past_below hw'
          clear hw'
          obtain ⟨hC3, hF3⟩ := bcell hB3
          have hS3 := hB3.size
          (try simp at hS3)
          (try have hS3_w0 : w.heap.size < w3.heap.size := by omega)
          (try have hS3_w1 : w.heap.size + 1 < w3.heap.size := by omega)
          (try have hS3_w2 : w.heap.size + 1 + 1 < w3.heap.size := by omega)
          (try have hS3_w3 : w.heap.size + 1 + 1 + 1 < w3.heap.size := by omega)
          (try have hS3_w4 : w.heap.size + 1 + 1 + 1 + 1 < w3.heap.size := by omega)
          (try have hS3_1 : w1.heap.size < w3.heap.size := by omega)
          (try have hS3_2 : w2.heap.size < w3.heap.size := by omega)
          (try have hS3_1' : w1.heap.size + 1 < w3.heap.size := by omega)
          (try have hS3_2' : w2.heap.size + 1 < w3.heap.size := by omega)
          have k4 := hK.out.below hB3
          have cr : ∀ o, w3.cell? ⟨w.heap.size + 1 + 1, o, none⟩ = (#[.int .i64 0, .int .i64 0, .int .i64 0, .int .i64 0] : Array Value)[o]? := k4.r.cell
          have fr : ∀ o, w3.frozen? ⟨w.heap.size + 1 + 1, o, none⟩ = false := k4.r.froz
          have kb := Lib.hid k4.b
          clear k4 hB3 hC3 hF3
          go_wp2_with fail
          refine bodyPost_ret (v := .tuple #[.agg #[.int .i64 0, .int .i64 0, .int .i64 0, .int .i64 0], .bool false]) (by go_light; simp [results, Try.results20, go_sem, *]) rfl ⟨⟨(0, 0, 0, 0), false, rfl, HC.out⟩, ?_⟩
          have hq := kb.out
          repeat (first | with_reducible exact Below.refl _ _ | with_reducible assumption | ((with_reducible refine blA ?_ ?_); (focus (first | omega | (simp <;> omega)))) | (with_reducible refine blD ?_) | (with_reducible refine blN ?_) | ((with_reducible refine blS ?_ ?_); (focus (first | omega | (simp <;> omega)))) | ((with_reducible refine blT (by assumption) ?_ ?_); (focus (first | omega | (simp <;> omega)))))
        | true =>
          have hch := Lib.hid fun w1 => checked_yes Q1 Q2 Q3 Q4 w1 hmb
          have HC := Lib.hid (HFN.out (Q1, Q2, Q3, Q4) true HW.out (.inr ⟨rfl, (mB_mle (M := (Q1, Q2, Q3, Q4))).1 hmb, rfl, rfl⟩))
          clear hmb HFN HW
          go_wp2_with fail
          refine wp_region_past_tail 7 (by kernel_rfl) (by kernel_rfl) ?_
          simp only [List.take_succ_cons, List.take_zero, List.drop_succ_cons, List.drop_zero]
          repeat (first | go_big_quiet_skip | (go_big_quiet_want; go_big_quiet_op; first | go_big_quiet_on | (apply Exists.intro; refine ⟨fun _ => ?_, ?_⟩; (focus (first | (go_at_call 72; exact past_of (hinv.out _)) | (go_at_call 69; exact past_of (htim.out _)) | (go_at_call 71; exact past_of (hch.out _)))); go_big_quiet_on)))
          refine wpQuiet_nil ?_
          intro w4 hw'
          have hB4 := past_below hw'
          clear hw'
          obtain ⟨hC4, hF4⟩ := bcell hB4
          have hS4 := hB4.size
          (try simp at hS4)
          (try have hS4_w0 : w.heap.size < w4.heap.size := by omega)
          (try have hS4_w1 : w.heap.size + 1 < w4.heap.size := by omega)
          (try have hS4_w2 : w.heap.size + 1 + 1 < w4.heap.size := by omega)
          (try have hS4_w3 : w.heap.size + 1 + 1 + 1 < w4.heap.size := by omega)
          (try have hS4_w4 : w.heap.size + 1 + 1 + 1 + 1 < w4.heap.size := by omega)
          (try have hS4_1 : w1.heap.size < w4.heap.size := by omega)
          (try have hS4_2 : w2.heap.size < w4.heap.size := by omega)
          (try have hS4_3 : w3.heap.size < w4.heap.size := by omega)
          (try have hS4_1' : w1.heap.size + 1 < w4.heap.size := by omega)
          (try have hS4_2' : w2.heap.size + 1 < w4.heap.size := by omega)
          (try have hS4_3' : w3.heap.size + 1 < w4.heap.size := by omega)
          have k4 := hK.out.below hB4
          have cr : ∀ o, w4.cell? ⟨w.heap.size + 1 + 1, o, none⟩ = (#[.int .i64 0, .int .i64 0, .int .i64 0, .int .i64 0] : Array Value)[o]? := k4.r.cell
          have fr : ∀ o, w4.frozen? ⟨w.heap.size + 1 + 1, o, none⟩ = false := k4.r.froz
          have kb := Lib.hid k4.b
          clear k4 hB4 hC4 hF4
          go_wp2_with fail
          refine bodyPost_ret (v := .tuple #[.agg #[.int .i64 Q1, .int .i64 Q2, .int .i64 Q3, .int .i64 Q4], .bool true]) (by go_light; simp [results, Try.results20, go_sem, *]) rfl ⟨⟨(Q1, Q2, Q3, Q4), true, rfl, HC.out⟩, ?_⟩
          have hq := kb.out
          repeat (first | with_reducible exact Below.refl _ _ | with_reducible assumption | ((with_reducible refine blA ?_ ?_); (focus (first | omega | (simp <;> omega)))) | (with_reducible refine blD ?_) | (with_reducible refine blN ?_) | ((with_reducible refine blS ?_ ?_); (focus (first | omega | (simp <;> omega)))) | ((with_reducible refine blT (by assumption) ?_ ?_); (focus (first | omega | (simp <;> omega)))))
      · obtain ⟨i, hi1, hi2⟩ := hS.out
        obtain ⟨hds, hst⟩ := dst_less hi2 hi1 hend
        obtain ⟨hcy, hgd⟩ := hP.out
        obtain ⟨nb1, nb2⟩ := hcy.nbg hgd.root
        obtain ⟨cy1, _, _⟩ := hcy.next hgd.root
        have hgd2 := hgd.next.1
        rw [← nb1] at hds hst cy1
        have hnb := Lib.hid fun w0 => neighbour_any r d x1' x2' x3' w0 hgd
        have hml : mle 1000000 (nmg r (x1', x2', x3')) := mB_mle.1 (nmg_mB hgd)
        have htim := Lib.hid fun w0 => times_mm (p, q, s, t) (nmg r (x1', x2', x3')) w0 hM.out hml
        have HBAD := Lib.hid fun hb => hD.out _ _ (Wk.bad hend hb)
        have HNX := Lib.hid fun hm P ok2 hW => hD.out P ok2 (Wk.next hend hm hW)
        have HDET : Hid (mdet (mm (p, q, s, t) (nmg r (x1', x2', x3'))) = 1) := Lib.hid (by rw [mdet_mm, hM1.out]; unfold nmg; rw [nm_det]; rfl)
        have HEND := Lib.hid hend
        obtain ⟨⟨G1, G2, G3⟩, hGe⟩ : ∃ G, nbg r (x1', x2', x3') = G := ⟨_, rfl⟩
        obtain ⟨⟨N1, N2, N3, N4⟩, hNe⟩ : ∃ N, nmg r (x1', x2', x3') = N := ⟨_, rfl⟩
        obtain ⟨⟨Z1, Z2, Z3, Z4⟩, hZe⟩ : ∃ Z, mm (p, q, s, t) (nmg r (x1', x2', x3')) = Z := ⟨_, rfl⟩
        rw [hGe] at hds hst cy1 hgd2 hnb HNX
        rw [hZe] at htim HBAD HNX HDET
        rw [hNe] at hnb htim
        simp only at hnb htim
        have HDS := Lib.hid hds
        have HST2 := Lib.hid hst
        have HP2 := Lib.hid (show Cy r (G1, G2, G3) ∧ Gd r d (G1, G2, G3) from ⟨cy1, hgd2⟩)
        have HCX := Lib.hid cx
        clear hds hst cy1 hgd2 hGe hNe hZe hml nb1 nb2 hcy hgd hi1 hi2 hD hM hM1 hP hS hend
        have split3 : ¬ x1' = h1 ∨ (x1' = h1 ∧ ¬ x2' = h2) ∨ (x1' = h1 ∧ x2' = h2 ∧ ¬ x3' = h3) := by
          by_cases e1 : x1' = h1
          · by_cases e2 : x2' = h2
            · exact .inr (.inr ⟨e1, e2, fun e3 => HEND.out (by rw [e1, e2, e3])⟩)
            · exact .inr (.inl ⟨e1, e2⟩)
          · exact .inl e1
        clear HEND
        rcases split3 with e1 | ⟨e1, e2⟩ | ⟨e1, e2, e3⟩
        · go_wp2_with fail
          refine (hnb.out _).mono ?_
          rintro e5 y5 ⟨rfl, hB5⟩
          have k5 := hK.out.below hB5
          clear hB5 hK cx cy lx ly
          have hzo := k5.n.lt
          have hzx := k5.o
          obtain ⟨y6, ey6, k6, b6, n6, z6⟩ : ∃ y6, (y5.alloc (.cells #[.int .i64 G1, .int .i64 G2, .int .i64 G3] 36)).alloc (.cells #[.int .i64 N1, .int .i64 N2, .int .i64 N3, .int .i64 N4] 40) = y6 ∧ KM w y6 (w.heap.size + 1 + 1) X Y (x1', x2', x3') (p, q, s, t) (h1, h2, h3) (n1, n2, n3, n4) ∧ Blk y5.heap.size 36 #[.int .i64 G1, .int .i64 G2, .int .i64 G3] y6 ∧ Blk (y5.heap.size + 1) 40 #[.int .i64 N1, .int .i64 N2, .int .i64 N3, .int .i64 N4] y6 ∧ y6.heap.size = y5.heap.size + 1 + 1 := by
            refine ⟨_, rfl, (k5.alloc _).alloc _, (Blk.new y5 _ _).alloc _, ?_, by simp⟩
            have := Blk.new (y5.alloc (.cells #[.int .i64 G1, .int .i64 G2, .int .i64 G3] 36)) 40 #[.int .i64 N1, .int .i64 N2, .int .i64 N3, .int .i64 N4]
            simpa using this
          have hgy : X + 1 < y5.heap.size := by omega
          have hgy' : X < y5.heap.size := by omega
          clear k5 z6
          obtain ⟨bg, hbg⟩ : ∃ bg, y5.heap.size = bg := ⟨_, rfl⟩
          rw [hbg] at b6 n6 hgy hgy' hzo
          have cm6 := k6.m.cell
          have cn6 := n6.cell
          have lm6 := k6.m.lt
          have ln6 := n6.lt
          simp only at cm6
          go_wp2_with fail
          try rw [ey6]
          refine (htim.out _).mono ?_
          rintro e7 y7 ⟨rfl, hB7⟩
          have k7 := k6.below hB7
          have b7 := b6.below hB7
          clear hB7 k6 b6 n6 cm6 cn6 lm6 ln6 ey6 hbg
          have cm7 := k7.m.cell
          have fm7 := k7.m.froz
          simp only at cm7
          obtain ⟨y8, e8, kk8, z8, g8⟩ := k7.m.set4 (.int .i64 Z1) (.int .i64 Z2) (.int .i64 Z3) (.int .i64 Z4)
          have k8 : KM w y8 (w.heap.size + 1 + 1) X Y (x1', x2', x3') (Z1, Z2, Z3, Z4) (h1, h2, h3) (n1, n2, n3, n4) :=
            ⟨k7.x.grown g8 (by simp), kk8, k7.y.grown g8 (by simp; omega), k7.n.grown g8 (by simp; omega), k7.r.grown g8 (by simp; omega), below_grown k7.b g8 (by omega) (by have := k7.b.size; omega), k7.o⟩
          have b8 := b7.grown g8 (by simp; omega)
          have K8' := Lib.hid k8
          have B8' := Lib.hid b8
          have cm8 := kk8.cell
          have lm8 := kk8.lt
          clear k7 b7 g8 z8 k8 b8 kk8
          cases hmb : mB Z1 Z2 Z3 Z4 with
          | false =>
            have hch : Hid (∀ w0, Calls Try.prog 70 #[.agg #[.int .i64 Z1, .int .i64 Z2, .int .i64 Z3, .int .i64 Z4]] w0 fun en w' => en = .returned (.bool false) ∧ Below w0.heap.size w0 w') := Lib.hid fun w0 => by have h := iMatrix_any Z1 Z2 Z3 Z4 w0; rwa [hmb] at h
            have HC := Lib.hid (HFIN.out _ _ (0, 0, 0, 0) false (HBAD.out (fun h => by have := (mB_mle (M := (Z1, Z2, Z3, Z4))).2 h; rw [hmb] at this; cases this)) (.inl ⟨fun h => (by cases h.1), rfl, rfl⟩))
            clear hmb HBAD HNX HFIN
            go_wp2_with fail
            refine (hch.out _).mono ?_
            rintro e9 y9 ⟨rfl, hB9⟩
            have k9 := K8'.out.below hB9
            have cr : ∀ o, y9.cell? ⟨w.heap.size + 1 + 1, o, none⟩ = (#[.int .i64 0, .int .i64 0, .int .i64 0, .int .i64 0] : Array Value)[o]? := k9.r.cell
            have fr : ∀ o, y9.frozen? ⟨w.heap.size + 1 + 1, o, none⟩ = false := k9.r.froz
            have kb := Lib.hid k9.b
            clear k9 hB9 cm7 fm7 e8 cm8 lm8
            go_wp2_with fail
            refine bodyPost_ret (v := .tuple #[.agg #[.int .i64 0, .int .i64 0, .int .i64 0, .int .i64 0], .bool false]) (by go_light; simp [results, Try.results20, go_sem, *]) rfl ⟨⟨(0, 0, 0, 0), false, rfl, HC.out⟩, ?_⟩
            have hq := kb.out
            repeat (first | with_reducible exact Below.refl _ _ | with_reducible assumption | ((with_reducible refine blA ?_ ?_); (focus (first | omega | (simp <;> omega)))) | (with_reducible refine blD ?_) | (with_reducible refine blN ?_) | ((with_reducible refine blS ?_ ?_); (focus (first | omega | (simp <;> omega)))) | ((with_reducible refine blT (by assumption) ?_ ?_); (focus (first | omega | (simp <;> omega)))))
          | true =>
            have hch : Hid (∀ w0, Calls Try.prog 70 #[.agg #[.int .i64 Z1, .int .i64 Z2, .int .i64 Z3, .int .i64 Z4]] w0 fun en w' => en = .returned (.bool true) ∧ Below w0.heap.size w0 w') := Lib.hid fun w0 => by have h := iMatrix_any Z1 Z2 Z3 Z4 w0; rwa [hmb] at h
            have HML := Lib.hid ((mB_mle (M := (Z1, Z2, Z3, Z4))).1 hmb)
            have HNX2 := Lib.hid (HNX.out HML.out)
            clear hmb HBAD HNX
            go_wp2_with fail
            refine (hch.out _).mono ?_
            rintro e9 y9 ⟨rfl, hB9⟩
            have k9 := K8'.out.below hB9
            have b9 := B8'.out.below hB9
            clear hB9 cm7 fm7 e8 cm8 lm8 K8' B8'
            have cb9 := b9.cell
            have lb9 := b9.lt
            have cx9 := k9.x.cell
            have fx9 := k9.x.froz
            have lx9 := k9.x.lt
            simp only at cx9
            obtain ⟨y10, e10, kk10, z10, g10⟩ := k9.x.set3 (.int .i64 G1) (.int .i64 G2) (.int .i64 G3)
            have k10 : KM w y10 (w.heap.size + 1 + 1) X Y (G1, G2, G3) (Z1, Z2, Z3, Z4) (h1, h2, h3) (n1, n2, n3, n4) :=
              ⟨kk10, k9.m.grown g10 (by simp), k9.y.grown g10 (by simp; omega), k9.n.grown g10 (by simp; omega), k9.r.grown g10 (by simp; omega), below_grown k9.b g10 (by omega) (by have := k9.b.size; omega), k9.o⟩
            have K10' := Lib.hid k10
            have c10 := kk10.cell
            clear k9 b9 k10 g10 kk10
            go_wp2_with fail
            go_roundw
            case rel =>
              go_light
              exact ⟨(G1, G2, G3), (Z1, Z2, Z3, Z4), K10', HP2, HST2, HML, HDET, HNX2⟩
            case measure =>
              have h0 := HCX.out
              have h1 := HDS.out
              simp [intOf, h0, c10]
              exact h1
        · subst e1
          go_wp2_with fail
          refine (hnb.out _).mono ?_
          rintro e5 y5 ⟨rfl, hB5⟩
          have k5 := hK.out.below hB5
          clear hB5 hK cx cy lx ly
          have hzo := k5.n.lt
          have hzx := k5.o
          obtain ⟨y6, ey6, k6, b6, n6, z6⟩ : ∃ y6, (y5.alloc (.cells #[.int .i64 G1, .int .i64 G2, .int .i64 G3] 36)).alloc (.cells #[.int .i64 N1, .int .i64 N2, .int .i64 N3, .int .i64 N4] 40) = y6 ∧ KM w y6 (w.heap.size + 1 + 1) X Y (x1', x2', x3') (p, q, s, t) (x1', h2, h3) (n1, n2, n3, n4) ∧ Blk y5.heap.size 36 #[.int .i64 G1, .int .i64 G2, .int .i64 G3] y6 ∧ Blk (y5.heap.size + 1) 40 #[.int .i64 N1, .int .i64 N2, .int .i64 N3, .int .i64 N4] y6 ∧ y6.heap.size = y5.heap.size + 1 + 1 := by
            refine ⟨_, rfl, (k5.alloc _).alloc _, (Blk.new y5 _ _).alloc _, ?_, by simp⟩
            have := Blk.new (y5.alloc (.cells #[.int .i64 G1, .int .i64 G2, .int .i64 G3] 36)) 40 #[.int .i64 N1, .int .i64 N2, .int .i64 N3, .int .i64 N4]
            simpa using this
          have hgy : X + 1 < y5.heap.size := by omega
          have hgy' : X < y5.heap.size := by omega
          clear k5 z6
          obtain ⟨bg, hbg⟩ : ∃ bg, y5.heap.size = bg := ⟨_, rfl⟩
          rw [hbg] at b6 n6 hgy hgy' hzo
          have cm6 := k6.m.cell
          have cn6 := n6.cell
          have lm6 := k6.m.lt
          have ln6 := n6.lt
          simp only at cm6
          go_wp2_with fail
          try rw [ey6]
          refine (htim.out _).mono ?_
          rintro e7 y7 ⟨rfl, hB7⟩
          have k7 := k6.below hB7
          have b7 := b6.below hB7
          clear hB7 k6 b6 n6 cm6 cn6 lm6 ln6 ey6 hbg
          have cm7 := k7.m.cell
          have fm7 := k7.m.froz
          simp only at cm7
          obtain ⟨y8, e8, kk8, z8, g8⟩ := k7.m.set4 (.int .i64 Z1) (.int .i64 Z2) (.int .i64 Z3) (.int .i64 Z4)
          have k8 : KM w y8 (w.heap.size + 1 + 1) X Y (x1', x2', x3') (Z1, Z2, Z3, Z4) (x1', h2, h3) (n1, n2, n3, n4) :=
            ⟨k7.x.grown g8 (by simp), kk8, k7.y.grown g8 (by simp; omega), k7.n.grown g8 (by simp; omega), k7.r.grown g8 (by simp; omega), below_grown k7.b g8 (by omega) (by have := k7.b.size; omega), k7.o⟩
          have b8 := b7.grown g8 (by simp; omega)
          have K8' := Lib.hid k8
          have B8' := Lib.hid b8
          have cm8 := kk8.cell
          have lm8 := kk8.lt
          clear k7 b7 g8 z8 k8 b8 kk8
          cases hmb : mB Z1 Z2 Z3 Z4 with
          | false =>
            have hch : Hid (∀ w0, Calls Try.prog 70 #[.agg #[.int .i64 Z1, .int .i64 Z2, .int .i64 Z3, .int .i64 Z4]] w0 fun en w' => en = .returned (.bool false) ∧ Below w0.heap.size w0 w') := Lib.hid fun w0 => by have h := iMatrix_any Z1 Z2 Z3 Z4 w0; rwa [hmb] at h
            have HC := Lib.hid (HFIN.out _ _ (0, 0, 0, 0) false (HBAD.out (fun h => by have := (mB_mle (M := (Z1, Z2, Z3, Z4))).2 h; rw [hmb] at this; cases this)) (.inl ⟨fun h => (by cases h.1), rfl, rfl⟩))
            clear hmb HBAD HNX HFIN
            go_wp2_with fail
            refine (hch.out _).mono ?_
            rintro e9 y9 ⟨rfl, hB9⟩
            have k9 := K8'.out.below hB9
            have cr : ∀ o, y9.cell? ⟨w.heap.size + 1 + 1, o, none⟩ = (#[.int .i64 0, .int .i64 0, .int .i64 0, .int .i64 0] : Array Value)[o]? := k9.r.cell
            have fr : ∀ o, y9.frozen? ⟨w.heap.size + 1 + 1, o, none⟩ = false := k9.r.froz
            have kb := Lib.hid k9.b
            clear k9 hB9 cm7 fm7 e8 cm8 lm8
            go_wp2_with fail
            refine bodyPost_ret (v := .tuple #[.agg #[.int .i64 0, .int .i64 0, .int .i64 0, .int .i64 0], .bool false]) (by go_light; simp [results, Try.results20, go_sem, *]) rfl ⟨⟨(0, 0, 0, 0), false, rfl, HC.out⟩, ?_⟩
            have hq := kb.out
            repeat (first | with_reducible exact Below.refl _ _ | with_reducible assumption | ((with_reducible refine blA ?_ ?_); (focus (first | omega | (simp <;> omega)))) | (with_reducible refine blD ?_) | (with_reducible refine blN ?_) | ((with_reducible refine blS ?_ ?_); (focus (first | omega | (simp <;> omega)))) | ((with_reducible refine blT (by assumption) ?_ ?_); (focus (first | omega | (simp <;> omega)))))
          | true =>
            have hch : Hid (∀ w0, Calls Try.prog 70 #[.agg #[.int .i64 Z1, .int .i64 Z2, .int .i64 Z3, .int .i64 Z4]] w0 fun en w' => en = .returned (.bool true) ∧ Below w0.heap.size w0 w') := Lib.hid fun w0 => by have h := iMatrix_any Z1 Z2 Z3 Z4 w0; rwa [hmb] at h
            have HML := Lib.hid ((mB_mle (M := (Z1, Z2, Z3, Z4))).1 hmb)
            have HNX2 := Lib.hid (HNX.out HML.out)
            clear hmb HBAD HNX
            go_wp2_with fail
            refine (hch.out _).mono ?_
            rintro e9 y9 ⟨rfl, hB9⟩
            have k9 := K8'.out.below hB9
            have b9 := B8'.out.below hB9
            clear hB9 cm7 fm7 e8 cm8 lm8 K8' B8'
            have cb9 := b9.cell
            have lb9 := b9.lt
            have cx9 := k9.x.cell
            have fx9 := k9.x.froz
            have lx9 := k9.x.lt
            simp only at cx9
            obtain ⟨y10, e10, kk10, z10, g10⟩ := k9.x.set3 (.int .i64 G1) (.int .i64 G2) (.int .i64 G3)
            have k10 : KM w y10 (w.heap.size + 1 + 1) X Y (G1, G2, G3) (Z1, Z2, Z3, Z4) (x1', h2, h3) (n1, n2, n3, n4) :=
              ⟨kk10, k9.m.grown g10 (by simp), k9.y.grown g10 (by simp; omega), k9.n.grown g10 (by simp; omega), k9.r.grown g10 (by simp; omega), below_grown k9.b g10 (by omega) (by have := k9.b.size; omega), k9.o⟩
            have K10' := Lib.hid k10
            have c10 := kk10.cell
            clear k9 b9 k10 g10 kk10
            go_wp2_with fail
            go_roundw
            case rel =>
              go_light
              exact ⟨(G1, G2, G3), (Z1, Z2, Z3, Z4), K10', HP2, HST2, HML, HDET, HNX2⟩
            case measure =>
              have h0 := HCX.out
              have h1 := HDS.out
              simp [intOf, h0, c10]
              exact h1
        · subst e1
          subst e2
          go_wp2_with fail
          refine (hnb.out _).mono ?_
          rintro e5 y5 ⟨rfl, hB5⟩
          have k5 := hK.out.below hB5
          clear hB5 hK cx cy lx ly
          have hzo := k5.n.lt
          have hzx := k5.o
          obtain ⟨y6, ey6, k6, b6, n6, z6⟩ : ∃ y6, (y5.alloc (.cells #[.int .i64 G1, .int .i64 G2, .int .i64 G3] 36)).alloc (.cells #[.int .i64 N1, .int .i64 N2, .int .i64 N3, .int .i64 N4] 40) = y6 ∧ KM w y6 (w.heap.size + 1 + 1) X Y (x1', x2', x3') (p, q, s, t) (x1', x2', h3) (n1, n2, n3, n4) ∧ Blk y5.heap.size 36 #[.int .i64 G1, .int .i64 G2, .int .i64 G3] y6 ∧ Blk (y5.heap.size + 1) 40 #[.int .i64 N1, .int .i64 N2, .int .i64 N3, .int .i64 N4] y6 ∧ y6.heap.size = y5.heap.size + 1 + 1 := by
            refine ⟨_, rfl, (k5.alloc _).alloc _, (Blk.new y5 _ _).alloc _, ?_, by simp⟩
            have := Blk.new (y5.alloc (.cells #[.int .i64 G1, .int .i64 G2, .int .i64 G3] 36)) 40 #[.int .i64 N1, .int .i64 N2, .int .i64 N3, .int .i64 N4]
            simpa using this
          have hgy : X + 1 < y5.heap.size := by omega
          have hgy' : X < y5.heap.size := by omega
          clear k5 z6
          obtain ⟨bg, hbg⟩ : ∃ bg, y5.heap.size = bg := ⟨_, rfl⟩
          rw [hbg] at b6 n6 hgy hgy' hzo
          have cm6 := k6.m.cell
          have cn6 := n6.cell
          have lm6 := k6.m.lt
          have ln6 := n6.lt
          simp only at cm6
          go_wp2_with fail
          try rw [ey6]
          refine (htim.out _).mono ?_
          rintro e7 y7 ⟨rfl, hB7⟩
          have k7 := k6.below hB7
          have b7 := b6.below hB7
          clear hB7 k6 b6 n6 cm6 cn6 lm6 ln6 ey6 hbg
          have cm7 := k7.m.cell
          have fm7 := k7.m.froz
          simp only at cm7
          obtain ⟨y8, e8, kk8, z8, g8⟩ := k7.m.set4 (.int .i64 Z1) (.int .i64 Z2) (.int .i64 Z3) (.int .i64 Z4)
          have k8 : KM w y8 (w.heap.size + 1 + 1) X Y (x1', x2', x3') (Z1, Z2, Z3, Z4) (x1', x2', h3) (n1, n2, n3, n4) :=
            ⟨k7.x.grown g8 (by simp), kk8, k7.y.grown g8 (by simp; omega), k7.n.grown g8 (by simp; omega), k7.r.grown g8 (by simp; omega), below_grown k7.b g8 (by omega) (by have := k7.b.size; omega), k7.o⟩
          have b8 := b7.grown g8 (by simp; omega)
          have K8' := Lib.hid k8
          have B8' := Lib.hid b8
          have cm8 := kk8.cell
          have lm8 := kk8.lt
          clear k7 b7 g8 z8 k8 b8 kk8
          cases hmb : mB Z1 Z2 Z3 Z4 with
          | false =>
            have hch : Hid (∀ w0, Calls Try.prog 70 #[.agg #[.int .i64 Z1, .int .i64 Z2, .int .i64 Z3, .int .i64 Z4]] w0 fun en w' => en = .returned (.bool false) ∧ Below w0.heap.size w0 w') := Lib.hid fun w0 => by have h := iMatrix_any Z1 Z2 Z3 Z4 w0; rwa [hmb] at h
            have HC := Lib.hid (HFIN.out _ _ (0, 0, 0, 0) false (HBAD.out (fun h => by have := (mB_mle (M := (Z1, Z2, Z3, Z4))).2 h; rw [hmb] at this; cases this)) (.inl ⟨fun h => (by cases h.1), rfl, rfl⟩))
            clear hmb HBAD HNX HFIN
            go_wp2_with fail
            refine (hch.out _).mono ?_
            rintro e9 y9 ⟨rfl, hB9⟩
            have k9 := K8'.out.below hB9
            have cr : ∀ o, y9.cell? ⟨w.heap.size + 1 + 1, o, none⟩ = (#[.int .i64 0, .int .i64 0, .int .i64 0, .int .i64 0] : Array Value)[o]? := k9.r.cell
            have fr : ∀ o, y9.frozen? ⟨w.heap.size + 1 + 1, o, none⟩ = false := k9.r.froz
            have kb := Lib.hid k9.b
            clear k9 hB9 cm7 fm7 e8 cm8 lm8
            go_wp2_with fail
            refine bodyPost_ret (v := .tuple #[.agg #[.int .i64 0, .int .i64 0, .int .i64 0, .int .i64 0], .bool false]) (by go_light; simp [results, Try.results20, go_sem, *]) rfl ⟨⟨(0, 0, 0, 0), false, rfl, HC.out⟩, ?_⟩
            have hq := kb.out
            repeat (first | with_reducible exact Below.refl _ _ | with_reducible assumption | ((with_reducible refine blA ?_ ?_); (focus (first | omega | (simp <;> omega)))) | (with_reducible refine blD ?_) | (with_reducible refine blN ?_) | ((with_reducible refine blS ?_ ?_); (focus (first | omega | (simp <;> omega)))) | ((with_reducible refine blT (by assumption) ?_ ?_); (focus (first | omega | (simp <;> omega)))))
          | true =>
            have hch : Hid (∀ w0, Calls Try.prog 70 #[.agg #[.int .i64 Z1, .int .i64 Z2, .int .i64 Z3, .int .i64 Z4]] w0 fun en w' => en = .returned (.bool true) ∧ Below w0.heap.size w0 w') := Lib.hid fun w0 => by have h := iMatrix_any Z1 Z2 Z3 Z4 w0; rwa [hmb] at h
            have HML := Lib.hid ((mB_mle (M := (Z1, Z2, Z3, Z4))).1 hmb)
            have HNX2 := Lib.hid (HNX.out HML.out)
            clear hmb HBAD HNX
            go_wp2_with fail
            refine (hch.out _).mono ?_
            rintro e9 y9 ⟨rfl, hB9⟩
            have k9 := K8'.out.below hB9
            have b9 := B8'.out.below hB9
            clear hB9 cm7 fm7 e8 cm8 lm8 K8' B8'
            have cb9 := b9.cell
            have lb9 := b9.lt
            have cx9 := k9.x.cell
            have fx9 := k9.x.froz
            have lx9 := k9.x.lt
            simp only at cx9
            obtain ⟨y10, e10, kk10, z10, g10⟩ := k9.x.set3 (.int .i64 G1) (.int .i64 G2) (.int .i64 G3)
            have k10 : KM w y10 (w.heap.size + 1 + 1) X Y (G1, G2, G3) (Z1, Z2, Z3, Z4) (x1', x2', h3) (n1, n2, n3, n4) :=
              ⟨kk10, k9.m.grown g10 (by simp), k9.y.grown g10 (by simp; omega), k9.n.grown g10 (by simp; omega), k9.r.grown g10 (by simp; omega), below_grown k9.b g10 (by omega) (by have := k9.b.size; omega), k9.o⟩
            have K10' := Lib.hid k10
            have c10 := kk10.cell
            clear k9 b9 k10 g10 kk10
            go_wp2_with fail
            go_roundw
            case rel =>
              go_light
              exact ⟨(G1, G2, G3), (Z1, Z2, Z3, Z4), K10', HP2, HST2, HML, HDET, HNX2⟩
            case measure =>
              have h0 := HCX.out
              have h1 := HDS.out
              simp [intOf, h0, c10]
              exact h1
end Go.Proofs.Ytemnkfigjpphgaa
