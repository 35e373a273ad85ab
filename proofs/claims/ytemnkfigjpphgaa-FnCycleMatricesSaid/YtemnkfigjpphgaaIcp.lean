/-
  The matrix that leads from a form to another in its class, walked in the reference.
-/
import Derived.Test.YtemnkfigjpphgaaIcm
namespace Go.Proofs.Ytemnkfigjpphgaa
open Go.RowKit
attribute [local simp, local go_sem] past_cell past_frozen past_tape
theorem cm_left {f f' : Fm} (h : indB f.1 f.2.1 f.2.2 = false) : CM f f' (0, 0, 0, 0) false := by
  obtain ⟨y, N, p, h2⟩ := RI.total f'
  exact ⟨_, _, _, _, _, _, .inr ⟨h, rfl, rfl, rfl⟩, h2, .inl ⟨.inl (by simp), rfl, rfl⟩⟩
theorem cm_right {f f' : Fm} (h : indB f'.1 f'.2.1 f'.2.2 = false) : CM f f' (0, 0, 0, 0) false := by
  obtain ⟨y, N, p, h2⟩ := RI.total f
  exact ⟨_, _, _, _, _, _, h2, .inr ⟨h, rfl, rfl, rfl⟩, .inl ⟨.inl (by simp), rfl, rfl⟩⟩
theorem cm_disc {f f' : Fm} (h : discW f.1 f.2.1 f.2.2 ≠ discW f'.1 f'.2.1 f'.2.2) : CM f f' (0, 0, 0, 0) false := by
  obtain ⟨x, M, o, h1⟩ := RI.total f
  obtain ⟨y, N, p, h2⟩ := RI.total f'
  refine ⟨_, _, _, _, _, _, h1, h2, .inl ⟨?_, rfl, rfl⟩⟩
  cases ho : o
  · left; rfl
  cases hp : p
  · left; rfl
  right
  rintro ⟨i, hi⟩
  obtain ⟨_, _, z1, _, _, _⟩ := h1.good ho
  obtain ⟨_, _, z2, _, _, _⟩ := h2.good hp
  apply h
  have e1 := z1.ds
  have e2 := z2.ds
  rw [← hi, nbn_disc, e1] at e2
  exact e2
set_option maxRecDepth 100000 in
set_option maxHeartbeats 8000000 in
theorem specCycleMatrix_any (a b c a' b' c' : Int) (w : World) : Calls Try.prog 21 #[.agg #[.int .i64 a, .int .i64 b, .int .i64 c], .agg #[.int .i64 a', .int .i64 b', .int .i64 c']] w fun e w' => (∃ (m : Mt) (ok : Bool), e = .returned (.tuple #[.agg #[.int .i64 m.1, .int .i64 m.2.1, .int .i64 m.2.2.1, .int .i64 m.2.2.2], .bool ok]) ∧ CM (a, b, c) (a', b', c') m ok) ∧ Below w.heap.size w w' := by
  have hr0 : Blk (w.heap.size + 1 + 1) 40 #[.int .i64 0, .int .i64 0, .int .i64 0, .int .i64 0] (((w.alloc (.cells #[.int .i64 a, .int .i64 b, .int .i64 c] 36)).alloc (.cells #[.int .i64 a', .int .i64 b', .int .i64 c'] 36)).alloc (.cells #[.int .i64 0, .int .i64 0, .int .i64 0, .int .i64 0] 40)) := by
    have := (Blk.new ((w.alloc (.cells #[.int .i64 a, .int .i64 b, .int .i64 c] 36)).alloc (.cells #[.int .i64 a', .int .i64 b', .int .i64 c'] 36)) 40 #[.int .i64 0, .int .i64 0, .int .i64 0, .int .i64 0])
    simpa using this
  have hf0 : Blk w.heap.size 36 #[.int .i64 a, .int .i64 b, .int .i64 c] (((w.alloc (.cells #[.int .i64 a, .int .i64 b, .int .i64 c] 36)).alloc (.cells #[.int .i64 a', .int .i64 b', .int .i64 c'] 36)).alloc (.cells #[.int .i64 0, .int .i64 0, .int .i64 0, .int .i64 0] 40)) := ((Blk.new w _ _).alloc _).alloc _
  have hf1 : Blk (w.heap.size + 1) 36 #[.int .i64 a', .int .i64 b', .int .i64 c'] (((w.alloc (.cells #[.int .i64 a, .int .i64 b, .int .i64 c] 36)).alloc (.cells #[.int .i64 a', .int .i64 b', .int .i64 c'] 36)).alloc (.cells #[.int .i64 0, .int .i64 0, .int .i64 0, .int .i64 0] 40)) := by
    have := (Blk.new (w.alloc (.cells #[.int .i64 a, .int .i64 b, .int .i64 c] 36)) 36 #[.int .i64 a', .int .i64 b', .int .i64 c']).alloc (.cells #[.int .i64 0, .int .i64 0, .int .i64 0, .int .i64 0] 40)
    simpa using this
  have H0 := Lib.hid hr0
  have H1 := Lib.hid hf0
  have H2 := Lib.hid hf1
  clear hr0 hf0 hf1
  cases hi : indB a b c with
  | false =>
    have HC := Lib.hid (cm_left (f := (a, b, c)) (f' := (a', b', c')) hi)
    go_enter Try.func21, Try.ntmps21
    go_wp2_with fail
    refine wp_region_past (by kernel_rfl) (by kernel_rfl) ?_
    repeat (first | go_big_quiet_skip | (go_big_quiet_want; go_big_quiet_op; first | go_big_quiet_on | (apply Exists.intro; refine ⟨fun _ => ?_, ?_⟩; (focus (first | (go_at_call 73; exact past_of (cyGood_any _ _ _ _)) | (go_at_call 74; exact past_of (foDisc_any _ _ _ _)))); go_big_quiet_on)))
    refine wpQuiet_nil ?_
    intro w1 hw'
    have hB1 := past_below hw'
    clear hw'
    obtain ⟨hC1, hF1⟩ := bcell hB1
    have hS1 := hB1.size
    (try simp at hS1)
    (try have hS1_w0 : w.heap.size < w1.heap.size := by omega)
    (try have hS1_w1 : w.heap.size + 1 < w1.heap.size := by omega)
    (try have hS1_w2 : w.heap.size + 1 + 1 < w1.heap.size := by omega)
    (try have hS1_w3 : w.heap.size + 1 + 1 + 1 < w1.heap.size := by omega)
    (try have hS1_w4 : w.heap.size + 1 + 1 + 1 + 1 < w1.heap.size := by omega)
    have k0 := H0.out.below hB1
    have cr : ∀ o, w1.cell? ⟨w.heap.size + 1 + 1, o, none⟩ = (#[.int .i64 0, .int .i64 0, .int .i64 0, .int .i64 0] : Array Value)[o]? := k0.cell
    have fr : ∀ o, w1.frozen? ⟨w.heap.size + 1 + 1, o, none⟩ = false := k0.froz
    have HB := Lib.hid hB1
    clear k0 hB1 hC1 hF1
    go_wp2_with fail
    refine bodyPost_ret (v := .tuple #[.agg #[.int .i64 0, .int .i64 0, .int .i64 0, .int .i64 0], .bool false]) (by go_light; simp [results, Try.results21, go_sem, *]) rfl ⟨⟨(0, 0, 0, 0), false, rfl, HC.out⟩, ?_⟩
    have hB1 := HB.out
    repeat (first | with_reducible exact Below.refl _ _ | with_reducible assumption | ((with_reducible refine blA ?_ ?_); (focus (first | omega | (simp <;> omega)))) | (with_reducible refine blD ?_) | (with_reducible refine blN ?_) | ((with_reducible refine blS ?_ ?_); (focus (first | omega | (simp <;> omega)))) | ((with_reducible refine blT (by assumption) ?_ ?_); (focus (first | omega | (simp <;> omega)))))
  | true =>
  cases hi' : indB a' b' c' with
  | false =>
    have HC := Lib.hid (cm_right (f := (a, b, c)) (f' := (a', b', c')) hi')
    go_enter Try.func21, Try.ntmps21
    go_wp2_with fail
    refine wp_region_past (by kernel_rfl) (by kernel_rfl) ?_
    repeat (first | go_big_quiet_skip | (go_big_quiet_want; go_big_quiet_op; first | go_big_quiet_on | (apply Exists.intro; refine ⟨fun _ => ?_, ?_⟩; (focus (first | (go_at_call 73; exact past_of (cyGood_any _ _ _ _)) | (go_at_call 74; exact past_of (foDisc_any _ _ _ _)))); go_big_quiet_on)))
    refine wpQuiet_nil ?_
    intro w2 hw'
    have hB2 := past_below hw'
    clear hw'
    obtain ⟨hC2, hF2⟩ := bcell hB2
    have hS2 := hB2.size
    (try simp at hS2)
    (try have hS2_w0 : w.heap.size < w2.heap.size := by omega)
    (try have hS2_w1 : w.heap.size + 1 < w2.heap.size := by omega)
    (try have hS2_w2 : w.heap.size + 1 + 1 < w2.heap.size := by omega)
    (try have hS2_w3 : w.heap.size + 1 + 1 + 1 < w2.heap.size := by omega)
    (try have hS2_w4 : w.heap.size + 1 + 1 + 1 + 1 < w2.heap.size := by omega)
    (try have hS2_1 : w1.heap.size < w2.heap.size := by omega)
    (try have hS2_1' : w1.heap.size + 1 < w2.heap.size := by omega)
    have k0 := H0.out.below hB2
    have cr : ∀ o, w2.cell? ⟨w.heap.size + 1 + 1, o, none⟩ = (#[.int .i64 0, .int .i64 0, .int .i64 0, .int .i64 0] : Array Value)[o]? := k0.cell
    have fr : ∀ o, w2.frozen? ⟨w.heap.size + 1 + 1, o, none⟩ = false := k0.froz
    have HB := Lib.hid hB2
    clear k0 hB2 hC2 hF2
    go_wp2_with fail
    refine bodyPost_ret (v := .tuple #[.agg #[.int .i64 0, .int .i64 0, .int .i64 0, .int .i64 0], .bool false]) (by go_light; simp [results, Try.results21, go_sem, *]) rfl ⟨⟨(0, 0, 0, 0), false, rfl, HC.out⟩, ?_⟩
    have hB1 := HB.out
    repeat (first | with_reducible exact Below.refl _ _ | with_reducible assumption | ((with_reducible refine blA ?_ ?_); (focus (first | omega | (simp <;> omega)))) | (with_reducible refine blD ?_) | (with_reducible refine blN ?_) | ((with_reducible refine blS ?_ ?_); (focus (first | omega | (simp <;> omega)))) | ((with_reducible refine blT (by assumption) ?_ ?_); (focus (first | omega | (simp <;> omega)))))
  | true =>
  by_cases hdd : discW a b c = discW a' b' c'
  rotate_left
  · have HC := Lib.hid (cm_disc (f := (a, b, c)) (f' := (a', b', c')) hdd)
    have hdd' : (discW a b c == discW a' b' c') = false := by simp [hdd]
    clear hdd
    go_enter Try.func21, Try.ntmps21
    go_wp2_with fail
    refine wp_region_past (by kernel_rfl) (by kernel_rfl) ?_
    repeat (first | go_big_quiet_skip | (go_big_quiet_want; go_big_quiet_op; first | go_big_quiet_on | (apply Exists.intro; refine ⟨fun _ => ?_, ?_⟩; (focus (first | (go_at_call 73; exact past_of (cyGood_any _ _ _ _)) | (go_at_call 74; exact past_of (foDisc_any _ _ _ _)))); go_big_quiet_on)))
    refine wpQuiet_nil ?_
    intro w3 hw'
    have hB3 := past_below hw'
    clear hw'
    obtain ⟨hC3, hF3⟩ := bcell hB3
    have hS3 := hB3.size
    (try simp at hS3)
    (try have hS3_w0 : w.heap.size < w3.heap.size := by omega)
    (try have hS3_w1 : w.heap.size + 1 < w3.heap.size := by omega)
    (try have hS3_w2 : w.heap.size + 1 + 1 < w3.heap.size := by omega)
    (try have hS3_w3 : w.heap.size + 1 + 1 + 1 < w3.heap.size := by omega)
    (try have hS3_w4 : w.heap.size + 1 + 1 + 1 + 1 < w3.heap.size := by omega)
    (try have hS3_1 : w1.heap.size < w3.heap.size := by omega)
    (try have hS3_2 : w2.heap.size < w3.heap.size := by omega)
    (try have hS3_1' : w1.heap.size + 1 < w3.heap.size := by omega)
    (try have hS3_2' : w2.heap.size + 1 < w3.heap.size := by omega)
    have k0 := H0.out.below hB3
    have cr : ∀ o, w3.cell? ⟨w.heap.size + 1 + 1, o, none⟩ = (#[.int .i64 0, .int .i64 0, .int .i64 0, .int .i64 0] : Array Value)[o]? := k0.cell
    have fr : ∀ o, w3.frozen? ⟨w.heap.size + 1 + 1, o, none⟩ = false := k0.froz
    have HB := Lib.hid hB3
    clear k0 hB3 hC3 hF3
    go_wp2_with fail
    refine bodyPost_ret (v := .tuple #[.agg #[.int .i64 0, .int .i64 0, .int .i64 0, .int .i64 0], .bool false]) (by go_light; simp [results, Try.results21, go_sem, *]) rfl ⟨⟨(0, 0, 0, 0), false, rfl, HC.out⟩, ?_⟩
    have hB1 := HB.out
    repeat (first | with_reducible exact Below.refl _ _ | with_reducible assumption | ((with_reducible refine blA ?_ ?_); (focus (first | omega | (simp <;> omega)))) | (with_reducible refine blD ?_) | (with_reducible refine blN ?_) | ((with_reducible refine blS ?_ ?_); (focus (first | omega | (simp <;> omega)))) | ((with_reducible refine blT (by assumption) ?_ ?_); (focus (first | omega | (simp <;> omega)))))
  have hred := Lib.hid fun w0 => cyReduce_any _ _ a b c w0 (ind_gd hi) (ind_pos hi)
  have hred' := Lib.hid fun w0 => cyReduce_any _ _ a' b' c' w0 (ind_gd hi') (ind_pos hi')
  have HI := Lib.hid hi
  have HI' := Lib.hid hi'
  have hdd' : (discW a b c == discW a' b' c') = true := by simp [hdd]
  have hd2 : (discW a b c != discW a' b' c') = false := by simp [hdd]
  have hd3 : decide (discW a b c = discW a' b' c') = true := by simp [hdd]
  clear hdd
  go_enter Try.func21, Try.ntmps21
  go_wp2_with fail
  refine wp_region_past (by kernel_rfl) (by kernel_rfl) ?_
  repeat (first | go_big_quiet_skip | (go_big_quiet_want; go_big_quiet_op; first | go_big_quiet_on | (apply Exists.intro; refine ⟨fun _ => ?_, ?_⟩; (focus (first | (go_at_call 73; exact past_of (cyGood_any _ _ _ _)) | (go_at_call 74; exact past_of (foDisc_any _ _ _ _)))); go_big_quiet_on)))
  refine wpQuiet_nil ?_
  intro w4 hw'
  have hB4 := past_below hw'
  clear hw'
  obtain ⟨hC4, hF4⟩ := bcell hB4
  have hS4 := hB4.size
  (try simp at hS4)
  (try have hS4_w0 : w.heap.size < w4.heap.size := by omega)
  (try have hS4_w1 : w.heap.size + 1 < w4.heap.size := by omega)
  (try have hS4_w2 : w.heap.size + 1 + 1 < w4.heap.size := by omega)
  (try have hS4_w3 : w.heap.size + 1 + 1 + 1 < w4.heap.size := by omega)
  (try have hS4_w4 : w.heap.size + 1 + 1 + 1 + 1 < w4.heap.size := by omega)
  (try have hS4_1 : w1.heap.size < w4.heap.size := by omega)
  (try have hS4_2 : w2.heap.size < w4.heap.size := by omega)
  (try have hS4_3 : w3.heap.size < w4.heap.size := by omega)
  (try have hS4_1' : w1.heap.size + 1 < w4.heap.size := by omega)
  (try have hS4_2' : w2.heap.size + 1 < w4.heap.size := by omega)
  (try have hS4_3' : w3.heap.size + 1 < w4.heap.size := by omega)
  have k0 := H0.out.below hB4
  have k1 := H1.out.below hB4
  have k2 := H2.out.below hB4
  have kb : Below w.heap.size w w4 := by repeat (first | with_reducible exact Below.refl _ _ | with_reducible assumption | ((with_reducible refine blA ?_ ?_); (focus (first | omega | (simp <;> omega)))) | (with_reducible refine blD ?_) | (with_reducible refine blN ?_) | ((with_reducible refine blS ?_ ?_); (focus (first | omega | (simp <;> omega)))) | ((with_reducible refine blT (by assumption) ?_ ?_); (focus (first | omega | (simp <;> omega)))))
  have c0 := k1.cell
  have c1 : ∀ o, w4.cell? ⟨w.heap.size + 1, o, none⟩ = (#[.int .i64 a', .int .i64 b', .int .i64 c'] : Array Value)[o]? := k2.cell
  obtain ⟨z0, hz0⟩ : ∃ z0, w4 = z0 := ⟨_, rfl⟩
  rw [hz0] at k0 k1 k2 kb c0 c1 ⊢
  have K0 := Lib.hid k0
  have K2 := Lib.hid k2
  have KB := Lib.hid kb
  clear hB4 hC4 hF4 k0 k1 k2 kb hi hi' H0 H1 H2
  go_wp2_with fail
  clear hdd' hd2 hd3
  refine (hred.out _).mono ?_
  rintro e1 x1 ⟨⟨⟨g1, g2, g3⟩, ⟨m1, m2, m3, m4⟩, o1, rfl, hR1⟩, hB1⟩
  have hz1 := hB1.size
  have hr0 : Blk (w.heap.size + 1 + 1) 40 #[.int .i64 0, .int .i64 0, .int .i64 0, .int .i64 0] x1 := K0.out.below hB1
  have hf1 := K2.out.below hB1
  have c1 : ∀ o, x1.cell? ⟨w.heap.size + 1, o, none⟩ = (#[.int .i64 a', .int .i64 b', .int .i64 c'] : Array Value)[o]? := hf1.cell
  have l1' : w.heap.size + 1 < x1.heap.size := hf1.lt
  have l1 : w.heap.size < x1.heap.size := by omega
  have l1'' : w.heap.size + 1 + 1 < x1.heap.size := hr0.lt
  have HR1 := Lib.hid (show RI (a, b, c) (g1, g2, g3) (m1, m2, m3, m4) o1 from .inl ⟨HI.out, hR1⟩)
  have HB1 := Lib.hid (show Below w.heap.size w x1 from KB.out.trans (hB1.mono KB.out.size))
  clear hR1 c0 hf1
  go_wp2_with fail
  refine (hred'.out _).mono ?_
  rintro e2 x2 ⟨⟨⟨h1, h2, h3⟩, ⟨n1, n2, n3, n4⟩, o2, rfl, hR2⟩, hB2⟩
  have hz2 := hB2.size
  (try simp at hz2)
  have HR2 := Lib.hid (show RI (a', b', c') (h1, h2, h3) (n1, n2, n3, n4) o2 from .inl ⟨HI'.out, hR2⟩)
  have hB0 : Below w.heap.size w x2 := by have hX := HB1.out; repeat (first | with_reducible exact Below.refl _ _ | with_reducible assumption | ((with_reducible refine blA ?_ ?_); (focus (first | omega | (simp <;> omega)))) | (with_reducible refine blD ?_) | (with_reducible refine blN ?_) | ((with_reducible refine blS ?_ ?_); (focus (first | omega | (simp <;> omega)))) | ((with_reducible refine blT (by assumption) ?_ ?_); (focus (first | omega | (simp <;> omega)))))
  have hK : KM w ((x2.alloc (.cells #[.int .i64 h1, .int .i64 h2, .int .i64 h3] 36)).alloc (.cells #[.int .i64 n1, .int .i64 n2, .int .i64 n3, .int .i64 n4] 40)) (w.heap.size + 1 + 1) x1.heap.size x2.heap.size (g1, g2, g3) (m1, m2, m3, m4) (h1, h2, h3) (n1, n2, n3, n4) := by
    have hx : Blk x1.heap.size 36 #[.int .i64 g1, .int .i64 g2, .int .i64 g3] x2 := ((Blk.new x1 _ _).alloc _).below hB2
    have hm : Blk (x1.heap.size + 1) 40 #[.int .i64 m1, .int .i64 m2, .int .i64 m3, .int .i64 m4] x2 := by
      have := (Blk.new (x1.alloc (.cells #[.int .i64 g1, .int .i64 g2, .int .i64 g3] 36)) 40 #[.int .i64 m1, .int .i64 m2, .int .i64 m3, .int .i64 m4]).below hB2
      simpa using this
    have hr2 := ((hr0.alloc (.cells #[.int .i64 g1, .int .i64 g2, .int .i64 g3] 36)).alloc (.cells #[.int .i64 m1, .int .i64 m2, .int .i64 m3, .int .i64 m4] 40)).below hB2
    refine ⟨(hx.alloc _).alloc _, (hm.alloc _).alloc _, (Blk.new x2 _ _).alloc _, ?_, (hr2.alloc _).alloc _, ?_, by omega⟩
    · have := Blk.new (x2.alloc (.cells #[.int .i64 h1, .int .i64 h2, .int .i64 h3] 36)) 40 #[.int .i64 n1, .int .i64 n2, .int .i64 n3, .int .i64 n4]
      simpa using this
    · exact (hB0.alloc (by omega) _).alloc (by simp; omega) _
  have hne2 : x1.heap.size < x2.heap.size := by omega
  have HK := Lib.hid hK
  obtain ⟨X, hX⟩ : ∃ X, x1.heap.size = X := ⟨_, rfl⟩
  obtain ⟨Y, hY⟩ : ∃ Y, x2.heap.size = Y := ⟨_, rfl⟩
  rw [hX, hY] at HK
  obtain ⟨V, hV⟩ : ∃ V, (x2.alloc (.cells #[.int .i64 h1, .int .i64 h2, .int .i64 h3] 36)).alloc (.cells #[.int .i64 n1, .int .i64 n2, .int .i64 n3, .int .i64 n4] 40) = V := ⟨_, rfl⟩
  rw [hV] at HK
  clear hR2 hB1 hB2 hK hr0 hz1 hz2 c1 l1 l1' l1'' hB0 HB1 hne2 hred hred' HI HI' K0 K2 KB hz0
  have cr : ∀ o, V.cell? ⟨w.heap.size + 1 + 1, o, none⟩ = (#[.int .i64 0, .int .i64 0, .int .i64 0, .int .i64 0] : Array Value)[o]? := HK.out.r.cell
  have fr : ∀ o, V.frozen? ⟨w.heap.size + 1 + 1, o, none⟩ = false := HK.out.r.froz
  have hbad : ∀ (z : Bool), z = (o1 && o2) → (z = false ∨ ¬ InC (isqrt (discW a b c)) (g1, g2, g3) (h1, h2, h3)) → CM (a, b, c) (a', b', c') (0, 0, 0, 0) false := fun z hz h => ⟨_, _, _, _, _, _, HR1.out, HR2.out, .inl ⟨by rw [← hz]; exact h, rfl, rfl⟩⟩
  have HBAD := Lib.hid hbad
  clear hbad
  cases o1 with
  | false =>
    have hb := HK.out.b
    go_wp2_with fail
    try rw [hV]
    refine wp_region_past (by kernel_rfl) (by kernel_rfl) ?_
    repeat (first | go_big_quiet_skip | (go_big_quiet_want; go_big_quiet_op; first | go_big_quiet_on | (apply Exists.intro; refine ⟨fun _ => ?_, ?_⟩; (focus (fail)); go_big_quiet_on)))
    refine wpQuiet_nil ?_
    intro w5 hw'
    have hB5 := past_below hw'
    clear hw'
    obtain ⟨hC5, hF5⟩ := bcell hB5
    have hS5 := hB5.size
    (try simp at hS5)
    (try have hS5_w0 : w.heap.size < w5.heap.size := by omega)
    (try have hS5_w1 : w.heap.size + 1 < w5.heap.size := by omega)
    (try have hS5_w2 : w.heap.size + 1 + 1 < w5.heap.size := by omega)
    (try have hS5_w3 : w.heap.size + 1 + 1 + 1 < w5.heap.size := by omega)
    (try have hS5_w4 : w.heap.size + 1 + 1 + 1 + 1 < w5.heap.size := by omega)
    (try have hS5_1 : w1.heap.size < w5.heap.size := by omega)
    (try have hS5_2 : w2.heap.size < w5.heap.size := by omega)
    (try have hS5_3 : w3.heap.size < w5.heap.size := by omega)
    (try have hS5_4 : w4.heap.size < w5.heap.size := by omega)
    (try have hS5_1' : w1.heap.size + 1 < w5.heap.size := by omega)
    (try have hS5_2' : w2.heap.size + 1 < w5.heap.size := by omega)
    (try have hS5_3' : w3.heap.size + 1 < w5.heap.size := by omega)
    (try have hS5_4' : w4.heap.size + 1 < w5.heap.size := by omega)
    have cr1 : ∀ o, w5.cell? ⟨w.heap.size + 1 + 1, o, none⟩ = (#[.int .i64 0, .int .i64 0, .int .i64 0, .int .i64 0] : Array Value)[o]? := fun o => by rw [hC5 _ _ HK.out.r.lt]; exact cr o
    have fr1 : ∀ o, w5.frozen? ⟨w.heap.size + 1 + 1, o, none⟩ = false := fun o => by rw [hF5 _ _ HK.out.r.lt]; exact fr o
    go_wp2_with fail
    refine bodyPost_ret (v := .tuple #[.agg #[.int .i64 0, .int .i64 0, .int .i64 0, .int .i64 0], .bool false]) (by go_light; simp [results, Try.results21, go_sem, *]) rfl ⟨⟨(0, 0, 0, 0), false, rfl, HBAD.out _ rfl (.inl rfl)⟩, ?_⟩
    have hq := HK.out.b.trans (hB5.mono HK.out.b.size)
    repeat (first | with_reducible exact Below.refl _ _ | with_reducible assumption | ((with_reducible refine blA ?_ ?_); (focus (first | omega | (simp <;> omega)))) | (with_reducible refine blD ?_) | (with_reducible refine blN ?_) | ((with_reducible refine blS ?_ ?_); (focus (first | omega | (simp <;> omega)))) | ((with_reducible refine blT (by assumption) ?_ ?_); (focus (first | omega | (simp <;> omega)))))
  | true =>
  cases o2 with
  | false =>
    have hb := HK.out.b
    go_wp2_with fail
    try rw [hV]
    refine wp_region_past (by kernel_rfl) (by kernel_rfl) ?_
    repeat (first | go_big_quiet_skip | (go_big_quiet_want; go_big_quiet_op; first | go_big_quiet_on | (apply Exists.intro; refine ⟨fun _ => ?_, ?_⟩; (focus (fail)); go_big_quiet_on)))
    refine wpQuiet_nil ?_
    intro w6 hw'
    have hB6 := past_below hw'
    clear hw'
    obtain ⟨hC6, hF6⟩ := bcell hB6
    have hS6 := hB6.size
    (try simp at hS6)
    (try have hS6_w0 : w.heap.size < w6.heap.size := by omega)
    (try have hS6_w1 : w.heap.size + 1 < w6.heap.size := by omega)
    (try have hS6_w2 : w.heap.size + 1 + 1 < w6.heap.size := by omega)
    (try have hS6_w3 : w.heap.size + 1 + 1 + 1 < w6.heap.size := by omega)
    (try have hS6_w4 : w.heap.size + 1 + 1 + 1 + 1 < w6.heap.size := by omega)
    (try have hS6_1 : w1.heap.size < w6.heap.size := by omega)
    (try have hS6_2 : w2.heap.size < w6.heap.size := by omega)
    (try have hS6_3 : w3.heap.size < w6.heap.size := by omega)
    (try have hS6_4 : w4.heap.size < w6.heap.size := by omega)
    (try have hS6_5 : w5.heap.size < w6.heap.size := by omega)
    (try have hS6_1' : w1.heap.size + 1 < w6.heap.size := by omega)
    (try have hS6_2' : w2.heap.size + 1 < w6.heap.size := by omega)
    (try have hS6_3' : w3.heap.size + 1 < w6.heap.size := by omega)
    (try have hS6_4' : w4.heap.size + 1 < w6.heap.size := by omega)
    (try have hS6_5' : w5.heap.size + 1 < w6.heap.size := by omega)
    have cr1 : ∀ o, w6.cell? ⟨w.heap.size + 1 + 1, o, none⟩ = (#[.int .i64 0, .int .i64 0, .int .i64 0, .int .i64 0] : Array Value)[o]? := fun o => by rw [hC6 _ _ HK.out.r.lt]; exact cr o
    have fr1 : ∀ o, w6.frozen? ⟨w.heap.size + 1 + 1, o, none⟩ = false := fun o => by rw [hF6 _ _ HK.out.r.lt]; exact fr o
    go_wp2_with fail
    refine bodyPost_ret (v := .tuple #[.agg #[.int .i64 0, .int .i64 0, .int .i64 0, .int .i64 0], .bool false]) (by go_light; simp [results, Try.results21, go_sem, *]) rfl ⟨⟨(0, 0, 0, 0), false, rfl, HBAD.out _ rfl (.inl rfl)⟩, ?_⟩
    have hq := HK.out.b.trans (hB6.mono HK.out.b.size)
    repeat (first | with_reducible exact Below.refl _ _ | with_reducible assumption | ((with_reducible refine blA ?_ ?_); (focus (first | omega | (simp <;> omega)))) | (with_reducible refine blD ?_) | (with_reducible refine blN ?_) | ((with_reducible refine blS ?_ ?_); (focus (first | omega | (simp <;> omega)))) | ((with_reducible refine blT (by assumption) ?_ ?_); (focus (first | omega | (simp <;> omega)))))
  | true =>
  obtain ⟨_, q1, q2, q3, q4, _⟩ := HR1.out.good rfl
  obtain ⟨_, _, _, t3, t4, _⟩ := HR2.out.good rfl
  obtain ⟨n, hn⟩ := ci_of q1 q2
  obtain ⟨r, hr⟩ : ∃ r, isqrt (discW a b c) = r := ⟨_, rfl⟩
  obtain ⟨d, hd⟩ : ∃ d, discW a b c = d := ⟨_, rfl⟩
  have HRR := Lib.hid hr
  rw [hr, hd] at hn
  have HN := Lib.hid hn
  have HM := Lib.hid q3
  have HM1 := Lib.hid q4
  have HNN := Lib.hid t3
  have HNN1 := Lib.hid t4
  have hcyc := Lib.hid fun w0 => cyCycle_any r d n g1 g2 g3 w0 hn
  have hlen : Hid ((cyc r n (g1, g2, g3)).length ≤ 1000000) := Lib.hid (by rw [cyc_length]; have := HN.out.n2; omega)
  clear q1 q2 q3 q4 t3 t4 hn hr hd
  obtain ⟨L, hL⟩ : ∃ L, cyc r n (g1, g2, g3) = L := ⟨_, rfl⟩
  rw [hL] at hlen
  simp only [hL] at hcyc
  have HL := Lib.hid hL
  clear hL
  have cx := HK.out.x.cell
  have cy := HK.out.y.cell
  have lx := HK.out.x.lt
  have ly := HK.out.y.lt
  simp only at cx cy
  go_wp2_with fail
  try rw [hV]
  clear hV
  refine region_mix 12 [0, 1, 2, 3, 4, 5, 6, 7, 9] [(false, 8), (false, 10), (true, 11)] (by kernel_rfl) (by kernel_rfl) (by kernel_rfl) ?_
  apply Exists.intro
  refine ⟨fun w0 hw0 => ?_, ?_⟩
  · obtain ⟨hC0, hF0⟩ := bcell hw0
    have hS0 := hw0.size
    (try simp at hS0)
    (try have hS0_w0 : w.heap.size < w0.heap.size := by omega)
    (try have hS0_w1 : w.heap.size + 1 < w0.heap.size := by omega)
    (try have hS0_w2 : w.heap.size + 1 + 1 < w0.heap.size := by omega)
    (try have hS0_w3 : w.heap.size + 1 + 1 + 1 < w0.heap.size := by omega)
    (try have hS0_w4 : w.heap.size + 1 + 1 + 1 + 1 < w0.heap.size := by omega)
    (try have hL0_w0 : w.heap.size ≤ w0.heap.size := by omega)
    (try have hL0_w1 : w.heap.size + 1 ≤ w0.heap.size := by omega)
    (try have hL0_w2 : w.heap.size + 1 + 1 ≤ w0.heap.size := by omega)
    (try have hL0_w3 : w.heap.size + 1 + 1 + 1 ≤ w0.heap.size := by omega)
    (try have hL0_w : w.heap.size ≤ w0.heap.size + 1 := by omega)
    (try have hM0_1 : w.heap.size < w0.heap.size + 1 := by omega)
    (try have hM0_2 : w.heap.size < w0.heap.size + 1 + 1 := by omega)
    (try have hM0_3 : w.heap.size < w0.heap.size + 1 + 1 + 1 := by omega)
    have hS0x : X < w0.heap.size := (by omega); have hS0y : Y < w0.heap.size := (by omega)
    simp only [List.filterMap_cons, List.filterMap_nil, List.getElem?_cons_zero, List.getElem?_cons_succ]
    show wpQuiet _ _ _ _ [_, _, _, _, _, _, _, _, _] _
    repeat (first | go_big_quiet_skip | (go_big_quiet_want; go_big_quiet_op; first | go_big_quiet_on | (apply Exists.intro; refine ⟨fun _ => ?_, ?_⟩; (focus (fail)); go_big_quiet_on)))
    refine wpQuiet_nil ?_
    rfl
  intro W hW hWz
  simp only [List.filterMap_cons, List.filterMap_nil, List.getElem?_cons_zero, List.getElem?_cons_succ, Option.map_some, List.drop_succ_cons, List.drop_zero]
  show effW _ _ _ _ [(false, _), (false, _), (true, _)] _ _
  refine effM_of fun wa hBa => ?_
  have hza := hBa.size
  try simp at hza
  go_wp2_with fail
  refine (hcyc.out _).mono ?_
  rintro e3 wb ⟨⟨v, rfl, hr⟩, hBb⟩
  obtain ⟨va, vc, hv, hvc, _, hsee⟩ := hr.sees c3_len
  subst hv
  have HS := Lib.hid hsee
  have hzb := hBb.size
  clear hsee hr hvc
  go_wp2
  refine effQ_of rfl (by repeat (first | with_reducible exact Below.refl _ _ | with_reducible assumption | ((with_reducible refine blA ?_ ?_); (focus (first | omega | (simp <;> omega)))) | (with_reducible refine blD ?_) | (with_reducible refine blN ?_) | ((with_reducible refine blS ?_ ?_); (focus (first | omega | (simp <;> omega)))) | ((with_reducible refine blT (by assumption) ?_ ?_); (focus (first | omega | (simp <;> omega)))))) ?_
  refine effM_of fun wc hBc => ?_
  have hzc := hBc.size
  try simp at hzc
  go_wp2_with fail
  refine (cyHas_any L (h1, h2, h3) va vc _ _ (HS.out.below hBc) hlen.out).mono ?_
  rintro e4 wd ⟨rfl, hBd⟩
  have hzd := hBd.size
  go_wp2
  refine effQ_of rfl (by repeat (first | with_reducible exact Below.refl _ _ | with_reducible assumption | ((with_reducible refine blA ?_ ?_); (focus (first | omega | (simp <;> omega)))) | (with_reducible refine blD ?_) | (with_reducible refine blN ?_) | ((with_reducible refine blS ?_ ?_); (focus (first | omega | (simp <;> omega)))) | ((with_reducible refine blT (by assumption) ?_ ?_); (focus (first | omega | (simp <;> omega)))))) ?_
  refine effQuiet (by kernel_rfl) ?_
  apply Exists.intro
  refine ⟨fun w0 hw0 => ?_, ?_⟩
  · repeat (first | go_big_quiet_skip | (go_big_quiet_want; go_big_quiet_op; first | go_big_quiet_on | (apply Exists.intro; refine ⟨fun _ => ?_, ?_⟩; (focus (fail)); go_big_quiet_on)))
    refine wpQuiet_nil ?_
    rfl
  intro wl hwl
  have hBl := past_below hwl
  clear hwl
  have hzl := hBl.size
  have hVl : Below V.heap.size V wl := by repeat (first | with_reducible exact Below.refl _ _ | with_reducible assumption | ((with_reducible refine blA ?_ ?_); (focus (first | omega | (simp <;> omega)))) | (with_reducible refine blD ?_) | (with_reducible refine blN ?_) | ((with_reducible refine blS ?_ ?_); (focus (first | omega | (simp <;> omega)))) | ((with_reducible refine blT (by assumption) ?_ ?_); (focus (first | omega | (simp <;> omega)))))
  have HK2 := Lib.hid (HK.out.below hVl)
  clear hBl hBd hBc hBb hBa hW hWz hza hzb hzc hzd hzl hVl HK HS cx cy lx ly cr fr
  obtain ⟨hs, hhs⟩ : ∃ hs, decide ((h1, h2, h3) ∈ L) = hs := ⟨_, rfl⟩
  have cr : ∀ o, wl.cell? ⟨w.heap.size + 1 + 1, o, none⟩ = (#[.int .i64 0, .int .i64 0, .int .i64 0, .int .i64 0] : Array Value)[o]? := HK2.out.r.cell
  have fr : ∀ o, wl.frozen? ⟨w.heap.size + 1 + 1, o, none⟩ = false := HK2.out.r.froz
  cases hs with
  | false =>
    have hHI := HBAD.out _ rfl (.inr (by rw [HRR.out, inC_cyc HN.out, HL.out]; exact of_decide_eq_false hhs))
    have HHI := Lib.hid hHI
    have HB := Lib.hid HK2.out.b
    clear hHI
    go_wp2_with fail
    refine bodyPost_ret (v := .tuple #[.agg #[.int .i64 0, .int .i64 0, .int .i64 0, .int .i64 0], .bool false]) (by go_light; simp [results, Try.results21, go_sem, *]) rfl ⟨⟨(0, 0, 0, 0), false, rfl, HHI.out⟩, ?_⟩
    have hq := HB.out
    repeat (first | with_reducible exact Below.refl _ _ | with_reducible assumption | ((with_reducible refine blA ?_ ?_); (focus (first | omega | (simp <;> omega)))) | (with_reducible refine blD ?_) | (with_reducible refine blN ?_) | ((with_reducible refine blS ?_ ?_); (focus (first | omega | (simp <;> omega)))) | ((with_reducible refine blT (by assumption) ?_ ?_); (focus (first | omega | (simp <;> omega)))))
  | true =>
    have hin : InC r (g1, g2, g3) (h1, h2, h3) := by rw [inC_cyc HN.out, HL.out]; exact of_decide_eq_true hhs
    have hst : ∃ i, i ≤ 2100 ∧ nbn r i (g1, g2, g3) = (h1, h2, h3) := by
      obtain ⟨i, hi, he⟩ := mem_cyc.1 ((inC_cyc HN.out).1 hin)
      exact ⟨i, by have := HN.out.n2; omega, he⟩
    have HST := Lib.hid hst
    have HFIN : Hid (∀ P ok2 m ok, Wk r (h1, h2, h3) (g1, g2, g3) (m1, m2, m3, m4) P ok2 → ((¬ (ok2 = true ∧ mle 1000000 (mm P (minv (n1, n2, n3, n4)))) ∧ m = (0, 0, 0, 0) ∧ ok = false) ∨ (ok2 = true ∧ mle 1000000 (mm P (minv (n1, n2, n3, n4))) ∧ m = mm P (minv (n1, n2, n3, n4)) ∧ ok = true)) → CM (a, b, c) (a', b', c') m ok) :=
      Lib.hid fun P ok2 m ok hw h => ⟨_, _, _, _, _, _, HR1.out, HR2.out, .inr ⟨rfl, by rw [HRR.out]; exact hin, P, ok2, by rw [HRR.out]; exact hw, h⟩⟩
    have HHS := Lib.hid hhs
    clear HL hlen hcyc HBAD HR1 HR2 HRR hin hst
    go_wp2_with fail
    clear hhs cr fr
    have HPD : Hid (Cy r (g1, g2, g3) ∧ Gd r d (g1, g2, g3)) := Lib.hid ⟨HN.out.cy, HN.out.gd⟩
    clear HHS HN
    go_loopw [] (fun wr => ∃ (x : Fm) (M : Mt), Hid (KM w wr (w.heap.size + 1 + 1) X Y x M (h1, h2, h3) (n1, n2, n3, n4)) ∧ Hid (Cy r x ∧ Gd r d x) ∧ Hid (∃ i, i ≤ 2100 ∧ nbn r i x = (h1, h2, h3)) ∧ Hid (mle 1000000 M) ∧ Hid (mdet M = 1) ∧ Hid (∀ P ok2, Wk r (h1, h2, h3) x M P ok2 → Wk r (h1, h2, h3) (g1, g2, g3) (m1, m2, m3, m4) P ok2)) (fun wr => dst r (h1, h2, h3) (intOf ((wr.cell? ⟨X, 0, none⟩).getD undef), intOf ((wr.cell? ⟨X, 1, none⟩).getD undef), intOf ((wr.cell? ⟨X, 2, none⟩).getD undef)))
    case atStart =>
      exact ⟨(g1, g2, g3), (m1, m2, m3, m4), HK2, HPD, HST, HM, HM1, Lib.hid fun _ _ h => h⟩
    case round =>
      obtain ⟨⟨x1', x2', x3'⟩, ⟨p, q, s, t⟩, hK, hP, hS, hM, hM1, hD⟩ := hrel
      clear HK2 HPD HST HM HM1
      have cx := hK.out.x.cell
      have cy := hK.out.y.cell
      have lx := hK.out.x.lt
      have ly := hK.out.y.lt
      simp only at cx cy
      by_cases hend : (x1', x2', x3') = (h1, h2, h3)
      · have HW := Lib.hid (hD.out _ _ (Wk.stop hend))
        simp only [Prod.mk.injEq] at hend
        obtain ⟨rfl, rfl, rfl⟩ := hend
        have cm := hK.out.m.cell
        have cn := hK.out.n.cell
        have lm := hK.out.m.lt
        have ln := hK.out.n.lt
        simp only at cm cn
        have hinv := Lib.hid fun w0 => foInverse_minv (n1, n2, n3, n4) w0 HNN.out HNN1.out
        have htim := Lib.hid fun w0 => foMul_mm (p, q, s, t) (minv (n1, n2, n3, n4)) w0 hM.out (mle_minv HNN.out)
        have hfin := HFIN.out (p, q, s, t) true
        obtain ⟨⟨Q1, Q2, Q3, Q4⟩, hQ⟩ : ∃ Q, mm (p, q, s, t) (minv (n1, n2, n3, n4)) = Q := ⟨_, rfl⟩
        obtain ⟨⟨V1, V2, V3, V4⟩, hV⟩ : ∃ Q, minv (n1, n2, n3, n4) = Q := ⟨_, rfl⟩
        rw [hQ] at htim hfin
        rw [hV] at hinv htim
        simp only at hinv htim
        have HFN := Lib.hid hfin
        clear hQ hV hfin hD hS hP
        go_wp2_with fail
        refine wp_region_past_tail 4 (by kernel_rfl) (by kernel_rfl) ?_
        simp only [List.take_succ_cons, List.take_zero, List.drop_succ_cons, List.drop_zero]
        repeat (first | go_big_quiet_skip | (go_big_quiet_want; go_big_quiet_op; first | go_big_quiet_on | (apply Exists.intro; refine ⟨fun _ => ?_, ?_⟩; (focus (first | (go_at_call 82; exact past_of (hinv.out _)) | (go_at_call 80; exact past_of (htim.out _)))); go_big_quiet_on)))
        refine wpQuiet_nil ?_
        intro w7 hw'
        have hB7 := past_below hw'
        clear hw'
        obtain ⟨hC7, hF7⟩ := bcell hB7
        have hS7 := hB7.size
        (try simp at hS7)
        (try have hS7_w0 : w.heap.size < w7.heap.size := by omega)
        (try have hS7_w1 : w.heap.size + 1 < w7.heap.size := by omega)
        (try have hS7_w2 : w.heap.size + 1 + 1 < w7.heap.size := by omega)
        (try have hS7_w3 : w.heap.size + 1 + 1 + 1 < w7.heap.size := by omega)
        (try have hS7_w4 : w.heap.size + 1 + 1 + 1 + 1 < w7.heap.size := by omega)
        (try have hS7_1 : w1.heap.size < w7.heap.size := by omega)
        (try have hS7_2 : w2.heap.size < w7.heap.size := by omega)
        (try have hS7_3 : w3.heap.size < w7.heap.size := by omega)
        (try have hS7_4 : w4.heap.size < w7.heap.size := by omega)
        (try have hS7_5 : w5.heap.size < w7.heap.size := by omega)
        (try have hS7_6 : w6.heap.size < w7.heap.size := by omega)
        (try have hS7_1' : w1.heap.size + 1 < w7.heap.size := by omega)
        (try have hS7_2' : w2.heap.size + 1 < w7.heap.size := by omega)
        (try have hS7_3' : w3.heap.size + 1 < w7.heap.size := by omega)
        (try have hS7_4' : w4.heap.size + 1 < w7.heap.size := by omega)
        (try have hS7_5' : w5.heap.size + 1 < w7.heap.size := by omega)
        (try have hS7_6' : w6.heap.size + 1 < w7.heap.size := by omega)
        have k4 := hK.out.below hB7
        have cm7 := k4.m.cell
        have fm7 := k4.m.froz
        simp only at cm7
        have hzx := k4.o
        obtain ⟨y8, e8, kk8, z8, g8⟩ := k4.m.set4 (.int .i64 Q1) (.int .i64 Q2) (.int .i64 Q3) (.int .i64 Q4)
        have hr8 := k4.r.grown g8 (by simp; omega)
        have hb8 : Below w.heap.size w y8 := below_grown k4.b g8 (by omega) (by have := k4.b.size; omega)
        have HR8 := Lib.hid hr8
        have HB8 := Lib.hid hb8
        have HM8 := Lib.hid kk8
        have cm8 := kk8.cell
        clear k4 hB7 hC7 hF7 hr8 hb8 g8 z8 kk8 cm cn lm ln cx cy lx ly
        cases hmb : mB Q1 Q2 Q3 Q4 with
        | false =>
          have hch : Hid (∀ w0, Calls Try.prog 81 #[.agg #[.int .i64 Q1, .int .i64 Q2, .int .i64 Q3, .int .i64 Q4]] w0 fun en w' => en = .returned (.bool false) ∧ Below w0.heap.size w0 w') := Lib.hid fun w0 => by have h := sMatrix_any Q1 Q2 Q3 Q4 w0; rwa [hmb] at h
          have HC := Lib.hid (HFN.out (0, 0, 0, 0) false HW.out (.inl ⟨fun h => (by have := (mB_mle (M := (Q1, Q2, Q3, Q4))).2 h.2; rw [hmb] at this; cases this), rfl, rfl⟩))
          clear hmb HFN HW
          go_wp2_with fail
          refine (hch.out _).mono ?_
          rintro e9 y9 ⟨rfl, hB9⟩
          have k9 := HR8.out.below hB9
          have cr : ∀ o, y9.cell? ⟨w.heap.size + 1 + 1, o, none⟩ = (#[.int .i64 0, .int .i64 0, .int .i64 0, .int .i64 0] : Array Value)[o]? := k9.cell
          have fr : ∀ o, y9.frozen? ⟨w.heap.size + 1 + 1, o, none⟩ = false := k9.froz
          have kb := Lib.hid (HB8.out.trans (hB9.mono HB8.out.size))
          clear k9 hB9 cm7 fm7 e8 cm8
          go_wp2_with fail
          refine bodyPost_ret (v := .tuple #[.agg #[.int .i64 0, .int .i64 0, .int .i64 0, .int .i64 0], .bool false]) (by go_light; simp [results, Try.results21, go_sem, *]) rfl ⟨⟨(0, 0, 0, 0), false, rfl, HC.out⟩, ?_⟩
          have hq := kb.out
          repeat (first | with_reducible exact Below.refl _ _ | with_reducible assumption | ((with_reducible refine blA ?_ ?_); (focus (first | omega | (simp <;> omega)))) | (with_reducible refine blD ?_) | (with_reducible refine blN ?_) | ((with_reducible refine blS ?_ ?_); (focus (first | omega | (simp <;> omega)))) | ((with_reducible refine blT (by assumption) ?_ ?_); (focus (first | omega | (simp <;> omega)))))
        | true =>
          have hch : Hid (∀ w0, Calls Try.prog 81 #[.agg #[.int .i64 Q1, .int .i64 Q2, .int .i64 Q3, .int .i64 Q4]] w0 fun en w' => en = .returned (.bool true) ∧ Below w0.heap.size w0 w') := Lib.hid fun w0 => by have h := sMatrix_any Q1 Q2 Q3 Q4 w0; rwa [hmb] at h
          have HC := Lib.hid (HFN.out (Q1, Q2, Q3, Q4) true HW.out (.inr ⟨(by trivial), (mB_mle (M := (Q1, Q2, Q3, Q4))).1 hmb, rfl, rfl⟩))
          clear hmb HFN HW
          go_wp2_with fail
          refine (hch.out _).mono ?_
          rintro e9 y9 ⟨rfl, hB9⟩
          have k9 := HR8.out.below hB9
          have m9 := HM8.out.below hB9
          have cm9 := m9.cell
          have lm9 := m9.lt
          have cr : ∀ o, y9.cell? ⟨w.heap.size + 1 + 1, o, none⟩ = (#[.int .i64 0, .int .i64 0, .int .i64 0, .int .i64 0] : Array Value)[o]? := k9.cell
          have fr : ∀ o, y9.frozen? ⟨w.heap.size + 1 + 1, o, none⟩ = false := k9.froz
          have kb := Lib.hid (HB8.out.trans (hB9.mono HB8.out.size))
          clear k9 hB9 cm7 fm7 e8 cm8 m9
          go_wp2_with fail
          refine bodyPost_ret (v := .tuple #[.agg #[.int .i64 Q1, .int .i64 Q2, .int .i64 Q3, .int .i64 Q4], .bool true]) (by go_light; simp [results, Try.results21, go_sem, *]) rfl ⟨⟨(Q1, Q2, Q3, Q4), true, rfl, HC.out⟩, ?_⟩
          have hq := kb.out
          repeat (first | with_reducible exact Below.refl _ _ | with_reducible assumption | ((with_reducible refine blA ?_ ?_); (focus (first | omega | (simp <;> omega)))) | (with_reducible refine blD ?_) | (with_reducible refine blN ?_) | ((with_reducible refine blS ?_ ?_); (focus (first | omega | (simp <;> omega)))) | ((with_reducible refine blT (by assumption) ?_ ?_); (focus (first | omega | (simp <;> omega)))))
      · obtain ⟨i, hi1, hi2⟩ := hS.out
        obtain ⟨hds, hst⟩ := dst_less hi2 hi1 hend
        obtain ⟨hcy, hgd⟩ := hP.out
        obtain ⟨nb1, nb2⟩ := hcy.nbg hgd.root
        obtain ⟨cy1, _, _⟩ := hcy.next hgd.root
        have hgd2 := hgd.next.1
        rw [← nb1] at hds hst cy1
        have hmv := Lib.hid fun w0 => cyMove_any r d x1' x2' x3' w0 hgd
        have hact := Lib.hid fun w0 => foActN_any r d x1' x2' x3' w0 hgd
        have hml : mle 1000000 (nmg r (x1', x2', x3')) := mB_mle.1 (nmg_mB hgd)
        have htim := Lib.hid fun w0 => foMul_mm (p, q, s, t) (nmg r (x1', x2', x3')) w0 hM.out hml
        have HBAD := Lib.hid fun hb => hD.out _ _ (Wk.bad hend hb)
        have HNX := Lib.hid fun hm P ok2 hW => hD.out P ok2 (Wk.next hend hm hW)
        have HDET : Hid (mdet (mm (p, q, s, t) (nmg r (x1', x2', x3'))) = 1) := Lib.hid (by rw [mdet_mm, hM1.out]; unfold nmg; rw [nm_det]; rfl)
        have HEND := Lib.hid hend
        obtain ⟨⟨G1, G2, G3⟩, hGe⟩ : ∃ G, nbg r (x1', x2', x3') = G := ⟨_, rfl⟩
        obtain ⟨⟨N1, N2, N3, N4⟩, hNe⟩ : ∃ N, nmg r (x1', x2', x3') = N := ⟨_, rfl⟩
        obtain ⟨⟨Z1, Z2, Z3, Z4⟩, hZe⟩ : ∃ Z, mm (p, q, s, t) (nmg r (x1', x2', x3')) = Z := ⟨_, rfl⟩
        rw [hGe] at hds hst cy1 hgd2 hact HNX
        rw [hZe] at htim HBAD HNX HDET
        rw [hNe] at hmv hact htim
        simp only at hmv hact htim
        have HDS := Lib.hid hds
        have HST2 := Lib.hid hst
        have HP2 := Lib.hid (show Cy r (G1, G2, G3) ∧ Gd r d (G1, G2, G3) from ⟨cy1, hgd2⟩)
        have HCX := Lib.hid cx
        clear hds hst cy1 hgd2 hGe hNe hZe hml nb1 nb2 hcy hgd hi1 hi2 hD hM hM1 hP hS hend
        have split3 : ¬ x1' = h1 ∨ (x1' = h1 ∧ ¬ x2' = h2) ∨ (x1' = h1 ∧ x2' = h2 ∧ ¬ x3' = h3) := by
          by_cases e1 : x1' = h1
          · by_cases e2 : x2' = h2
            · exact .inr (.inr ⟨e1, e2, fun e3 => HEND.out (by rw [e1, e2, e3])⟩)
            · exact .inr (.inl ⟨e1, e2⟩)
          · exact .inl e1
        clear HEND
        rcases split3 with e1 | ⟨e1, e2⟩ | ⟨e1, e2, e3⟩
        · go_wp2_with fail
          refine (hmv.out _).mono ?_
          rintro e5 y5 ⟨rfl, hB5⟩
          have k5 := hK.out.below hB5
          clear hB5 hK cx cy lx ly
          have hzx := k5.o
          obtain ⟨y6, ey6, k6, n6, z6⟩ : ∃ y6, y5.alloc (.cells #[.int .i64 N1, .int .i64 N2, .int .i64 N3, .int .i64 N4] 40) = y6 ∧ KM w y6 (w.heap.size + 1 + 1) X Y (x1', x2', x3') (p, q, s, t) (h1, h2, h3) (n1, n2, n3, n4) ∧ Blk y5.heap.size 40 #[.int .i64 N1, .int .i64 N2, .int .i64 N3, .int .i64 N4] y6 ∧ y6.heap.size = y5.heap.size + 1 :=
            ⟨_, rfl, k5.alloc _, Blk.new y5 _ _, by simp⟩
          clear k5 z6
          obtain ⟨bg, hbg⟩ : ∃ bg, y5.heap.size = bg := ⟨_, rfl⟩
          rw [hbg] at n6
          have cm6 := k6.m.cell
          have cn6 := n6.cell
          have cx6 := k6.x.cell
          have lm6 := k6.m.lt
          have ln6 := n6.lt
          have lx6 := k6.x.lt
          simp only at cm6 cx6
          go_wp2_with fail
          try rw [ey6]
          refine wp_region_past_tail 6 (by kernel_rfl) (by kernel_rfl) ?_
          simp only [List.take_succ_cons, List.take_zero, List.drop_succ_cons, List.drop_zero]
          repeat (first | go_big_quiet_skip | (go_big_quiet_want; go_big_quiet_op; first | go_big_quiet_on | (apply Exists.intro; refine ⟨fun _ => ?_, ?_⟩; (focus (first | (go_at_call 79; exact past_of (hact.out _)) | (go_at_call 80; exact past_of (htim.out _)))); go_big_quiet_on)))
          refine wpQuiet_nil ?_
          intro w8 hw'
          have hB8 := past_below hw'
          clear hw'
          obtain ⟨hC8, hF8⟩ := bcell hB8
          have hS8 := hB8.size
          (try simp at hS8)
          (try have hS8_w0 : w.heap.size < w8.heap.size := by omega)
          (try have hS8_w1 : w.heap.size + 1 < w8.heap.size := by omega)
          (try have hS8_w2 : w.heap.size + 1 + 1 < w8.heap.size := by omega)
          (try have hS8_w3 : w.heap.size + 1 + 1 + 1 < w8.heap.size := by omega)
          (try have hS8_w4 : w.heap.size + 1 + 1 + 1 + 1 < w8.heap.size := by omega)
          (try have hS8_1 : w1.heap.size < w8.heap.size := by omega)
          (try have hS8_2 : w2.heap.size < w8.heap.size := by omega)
          (try have hS8_3 : w3.heap.size < w8.heap.size := by omega)
          (try have hS8_4 : w4.heap.size < w8.heap.size := by omega)
          (try have hS8_5 : w5.heap.size < w8.heap.size := by omega)
          (try have hS8_6 : w6.heap.size < w8.heap.size := by omega)
          (try have hS8_7 : w7.heap.size < w8.heap.size := by omega)
          (try have hS8_1' : w1.heap.size + 1 < w8.heap.size := by omega)
          (try have hS8_2' : w2.heap.size + 1 < w8.heap.size := by omega)
          (try have hS8_3' : w3.heap.size + 1 < w8.heap.size := by omega)
          (try have hS8_4' : w4.heap.size + 1 < w8.heap.size := by omega)
          (try have hS8_5' : w5.heap.size + 1 < w8.heap.size := by omega)
          (try have hS8_6' : w6.heap.size + 1 < w8.heap.size := by omega)
          (try have hS8_7' : w7.heap.size + 1 < w8.heap.size := by omega)
          have k7 := k6.below hB8
          clear hB8 hC8 hF8 k6 n6 cm6 cn6 cx6 lm6 ln6 lx6 ey6 hbg
          have cx7 := k7.x.cell
          have fx7 := k7.x.froz
          have cm7 := k7.m.cell
          have fm7 := k7.m.froz
          simp only at cm7 cx7
          obtain ⟨y8, e8, kk8, z8, g8⟩ := k7.x.set3 (.int .i64 G1) (.int .i64 G2) (.int .i64 G3)
          have m8 := k7.m.grown g8 (by simp)
          obtain ⟨y9, e9, kk9, z9, g9⟩ := m8.set4 (.int .i64 Z1) (.int .i64 Z2) (.int .i64 Z3) (.int .i64 Z4)
          have k9 : KM w y9 (w.heap.size + 1 + 1) X Y (G1, G2, G3) (Z1, Z2, Z3, Z4) (h1, h2, h3) (n1, n2, n3, n4) :=
            ⟨kk8.grown g9 (by simp), kk9, (k7.y.grown g8 (by simp; omega)).grown g9 (by simp; omega), (k7.n.grown g8 (by simp; omega)).grown g9 (by simp; omega), (k7.r.grown g8 (by simp; omega)).grown g9 (by simp; omega), below_grown (below_grown k7.b g8 (by omega) (by have := k7.b.size; omega)) g9 (by omega) (by have := k7.b.size; omega), k7.o⟩
          have K9' := Lib.hid k9
          have cm8 := m8.cell
          have fm8 := m8.froz
          have cm9 := kk9.cell
          simp only at cm8
          clear k7 g8 z8 kk8 g9 z9 k9 kk9 m8
          cases hmb : mB Z1 Z2 Z3 Z4 with
          | false =>
            have hch : Hid (∀ w0, Calls Try.prog 81 #[.agg #[.int .i64 Z1, .int .i64 Z2, .int .i64 Z3, .int .i64 Z4]] w0 fun en w' => en = .returned (.bool false) ∧ Below w0.heap.size w0 w') := Lib.hid fun w0 => by have h := sMatrix_any Z1 Z2 Z3 Z4 w0; rwa [hmb] at h
            have HC := Lib.hid (HFIN.out _ _ (0, 0, 0, 0) false (HBAD.out (fun h => by have := (mB_mle (M := (Z1, Z2, Z3, Z4))).2 h; rw [hmb] at this; cases this)) (.inl ⟨fun h => (by cases h.1), rfl, rfl⟩))
            clear hmb HBAD HNX HFIN
            go_wp2_with fail
            refine (hch.out _).mono ?_
            rintro e10 y10 ⟨rfl, hB10⟩
            have k10 := K9'.out.below hB10
            have cr : ∀ o, y10.cell? ⟨w.heap.size + 1 + 1, o, none⟩ = (#[.int .i64 0, .int .i64 0, .int .i64 0, .int .i64 0] : Array Value)[o]? := k10.r.cell
            have fr : ∀ o, y10.frozen? ⟨w.heap.size + 1 + 1, o, none⟩ = false := k10.r.froz
            have kb := Lib.hid k10.b
            clear k10 hB10 cm7 fm7 cx7 fx7 e8 e9 cm8 fm8 cm9
            go_wp2_with fail
            refine bodyPost_ret (v := .tuple #[.agg #[.int .i64 0, .int .i64 0, .int .i64 0, .int .i64 0], .bool false]) (by go_light; simp [results, Try.results21, go_sem, *]) rfl ⟨⟨(0, 0, 0, 0), false, rfl, HC.out⟩, ?_⟩
            have hq := kb.out
            repeat (first | with_reducible exact Below.refl _ _ | with_reducible assumption | ((with_reducible refine blA ?_ ?_); (focus (first | omega | (simp <;> omega)))) | (with_reducible refine blD ?_) | (with_reducible refine blN ?_) | ((with_reducible refine blS ?_ ?_); (focus (first | omega | (simp <;> omega)))) | ((with_reducible refine blT (by assumption) ?_ ?_); (focus (first | omega | (simp <;> omega)))))
          | true =>
            have hch : Hid (∀ w0, Calls Try.prog 81 #[.agg #[.int .i64 Z1, .int .i64 Z2, .int .i64 Z3, .int .i64 Z4]] w0 fun en w' => en = .returned (.bool true) ∧ Below w0.heap.size w0 w') := Lib.hid fun w0 => by have h := sMatrix_any Z1 Z2 Z3 Z4 w0; rwa [hmb] at h
            have HML := Lib.hid ((mB_mle (M := (Z1, Z2, Z3, Z4))).1 hmb)
            have HNX2 := Lib.hid (HNX.out HML.out)
            clear hmb HBAD HNX
            go_wp2_with fail
            refine (hch.out _).mono ?_
            rintro e10 y10 ⟨rfl, hB10⟩
            have k10 := K9'.out.below hB10
            clear hB10 cm7 fm7 cx7 fx7 e8 e9 cm8 fm8 cm9 K9'
            have K10' := Lib.hid k10
            have c10 := k10.x.cell
            simp only at c10
            clear k10
            go_wp2_with fail
            go_roundw
            case rel =>
              go_light
              exact ⟨(G1, G2, G3), (Z1, Z2, Z3, Z4), K10', HP2, HST2, HML, HDET, HNX2⟩
            case measure =>
              have h0 := HCX.out
              have h1 := HDS.out
              simp [intOf, h0, c10]
              exact h1
        · subst e1
          go_wp2_with fail
          refine (hmv.out _).mono ?_
          rintro e5 y5 ⟨rfl, hB5⟩
          have k5 := hK.out.below hB5
          clear hB5 hK cx cy lx ly
          have hzx := k5.o
          obtain ⟨y6, ey6, k6, n6, z6⟩ : ∃ y6, y5.alloc (.cells #[.int .i64 N1, .int .i64 N2, .int .i64 N3, .int .i64 N4] 40) = y6 ∧ KM w y6 (w.heap.size + 1 + 1) X Y (x1', x2', x3') (p, q, s, t) (x1', h2, h3) (n1, n2, n3, n4) ∧ Blk y5.heap.size 40 #[.int .i64 N1, .int .i64 N2, .int .i64 N3, .int .i64 N4] y6 ∧ y6.heap.size = y5.heap.size + 1 :=
            ⟨_, rfl, k5.alloc _, Blk.new y5 _ _, by simp⟩
          clear k5 z6
          obtain ⟨bg, hbg⟩ : ∃ bg, y5.heap.size = bg := ⟨_, rfl⟩
          rw [hbg] at n6
          have cm6 := k6.m.cell
          have cn6 := n6.cell
          have cx6 := k6.x.cell
          have lm6 := k6.m.lt
          have ln6 := n6.lt
          have lx6 := k6.x.lt
          simp only at cm6 cx6
          go_wp2_with fail
          try rw [ey6]
          refine wp_region_past_tail 6 (by kernel_rfl) (by kernel_rfl) ?_
          simp only [List.take_succ_cons, List.take_zero, List.drop_succ_cons, List.drop_zero]
          repeat (first | go_big_quiet_skip | (go_big_quiet_want; go_big_quiet_op; first | go_big_quiet_on | (apply Exists.intro; refine ⟨fun _ => ?_, ?_⟩; (focus (first | (go_at_call 79; exact past_of (hact.out _)) | (go_at_call 80; exact past_of (htim.out _)))); go_big_quiet_on)))
          refine wpQuiet_nil ?_
          intro w9 hw'
          have hB9 := past_below hw'
          clear hw'
          obtain ⟨hC9, hF9⟩ := bcell hB9
          have hS9 := hB9.size
          (try simp at hS9)
          (try have hS9_w0 : w.heap.size < w9.heap.size := by omega)
          (try have hS9_w1 : w.heap.size + 1 < w9.heap.size := by omega)
          (try have hS9_w2 : w.heap.size + 1 + 1 < w9.heap.size := by omega)
          (try have hS9_w3 : w.heap.size + 1 + 1 + 1 < w9.heap.size := by omega)
          (try have hS9_w4 : w.heap.size + 1 + 1 + 1 + 1 < w9.heap.size := by omega)
          (try have hS9_1 : w1.heap.size < w9.heap.size := by omega)
          (try have hS9_2 : w2.heap.size < w9.heap.size := by omega)
          (try have hS9_3 : w3.heap.size < w9.heap.size := by omega)
          (try have hS9_4 : w4.heap.size < w9.heap.size := by omega)
          (try have hS9_5 : w5.heap.size < w9.heap.size := by omega)
          (try have hS9_6 : w6.heap.size < w9.heap.size := by omega)
          (try have hS9_7 : w7.heap.size < w9.heap.size := by omega)
          (try have hS9_8 : w8.heap.size < w9.heap.size := by omega)
          (try have hS9_1' : w1.heap.size + 1 < w9.heap.size := by omega)
          (try have hS9_2' : w2.heap.size + 1 < w9.heap.size := by omega)
          (try have hS9_3' : w3.heap.size + 1 < w9.heap.size := by omega)
          (try have hS9_4' : w4.heap.size + 1 < w9.heap.size := by omega)
          (try have hS9_5' : w5.heap.size + 1 < w9.heap.size := by omega)
          (try have hS9_6' : w6.heap.size + 1 < w9.heap.size := by omega)
          (try have hS9_7' : w7.heap.size + 1 < w9.heap.size := by omega)
          (try have hS9_8' : w8.heap.size + 1 < w9.heap.size := by omega)
          have k7 := k6.below hB9
          clear hB9 hC9 hF9 k6 n6 cm6 cn6 cx6 lm6 ln6 lx6 ey6 hbg
          have cx7 := k7.x.cell
          have fx7 := k7.x.froz
          have cm7 := k7.m.cell
          have fm7 := k7.m.froz
          simp only at cm7 cx7
          obtain ⟨y8, e8, kk8, z8, g8⟩ := k7.x.set3 (.int .i64 G1) (.int .i64 G2) (.int .i64 G3)
          have m8 := k7.m.grown g8 (by simp)
          obtain ⟨y9, e9, kk9, z9, g9⟩ := m8.set4 (.int .i64 Z1) (.int .i64 Z2) (.int .i64 Z3) (.int .i64 Z4)
          have k9 : KM w y9 (w.heap.size + 1 + 1) X Y (G1, G2, G3) (Z1, Z2, Z3, Z4) (x1', h2, h3) (n1, n2, n3, n4) :=
            ⟨kk8.grown g9 (by simp), kk9, (k7.y.grown g8 (by simp; omega)).grown g9 (by simp; omega), (k7.n.grown g8 (by simp; omega)).grown g9 (by simp; omega), (k7.r.grown g8 (by simp; omega)).grown g9 (by simp; omega), below_grown (below_grown k7.b g8 (by omega) (by have := k7.b.size; omega)) g9 (by omega) (by have := k7.b.size; omega), k7.o⟩
          have K9' := Lib.hid k9
          have cm8 := m8.cell
          have fm8 := m8.froz
          have cm9 := kk9.cell
          simp only at cm8
          clear k7 g8 z8 kk8 g9 z9 k9 kk9 m8
          cases hmb : mB Z1 Z2 Z3 Z4 with
          | false =>
            have hch : Hid (∀ w0, Calls Try.prog 81 #[.agg #[.int .i64 Z1, .int .i64 Z2, .int .i64 Z3, .int .i64 Z4]] w0 fun en w' => en = .returned (.bool false) ∧ Below w0.heap.size w0 w') := Lib.hid fun w0 => by have h := sMatrix_any Z1 Z2 Z3 Z4 w0; rwa [hmb] at h
            have HC := Lib.hid (HFIN.out _ _ (0, 0, 0, 0) false (HBAD.out (fun h => by have := (mB_mle (M := (Z1, Z2, Z3, Z4))).2 h; rw [hmb] at this; cases this)) (.inl ⟨fun h => (by cases h.1), rfl, rfl⟩))
            clear hmb HBAD HNX HFIN
            go_wp2_with fail
            refine (hch.out _).mono ?_
            rintro e10 y10 ⟨rfl, hB10⟩
            have k10 := K9'.out.below hB10
            have cr : ∀ o, y10.cell? ⟨w.heap.size + 1 + 1, o, none⟩ = (#[.int .i64 0, .int .i64 0, .int .i64 0, .int .i64 0] : Array Value)[o]? := k10.r.cell
            have fr : ∀ o, y10.frozen? ⟨w.heap.size + 1 + 1, o, none⟩ = false := k10.r.froz
            have kb := Lib.hid k10.b
            clear k10 hB10 cm7 fm7 cx7 fx7 e8 e9 cm8 fm8 cm9
            go_wp2_with fail
            refine bodyPost_ret (v := .tuple #[.agg #[.int .i64 0, .int .i64 0, .int .i64 0, .int .i64 0], .bool false]) (by go_light; simp [results, Try.results21, go_sem, *]) rfl ⟨⟨(0, 0, 0, 0), false, rfl, HC.out⟩, ?_⟩
            have hq := kb.out
            repeat (first | with_reducible exact Below.refl _ _ | with_reducible assumption | ((with_reducible refine blA ?_ ?_); (focus (first | omega | (simp <;> omega)))) | (with_reducible refine blD ?_) | (with_reducible refine blN ?_) | ((with_reducible refine blS ?_ ?_); (focus (first | omega | (simp <;> omega)))) | ((with_reducible refine blT (by assumption) ?_ ?_); (focus (first | omega | (simp <;> omega)))))
          | true =>
            have hch : Hid (∀ w0, Calls Try.prog 81 #[.agg #[.int .i64 Z1, .int .i64 Z2, .int .i64 Z3, .int .i64 Z4]] w0 fun en w' => en = .returned (.bool true) ∧ Below w0.heap.size w0 w') := Lib.hid fun w0 => by have h := sMatrix_any Z1 Z2 Z3 Z4 w0; rwa [hmb] at h
            have HML := Lib.hid ((mB_mle (M := (Z1, Z2, Z3, Z4))).1 hmb)
            have HNX2 := Lib.hid (HNX.out HML.out)
            clear hmb HBAD HNX
            go_wp2_with fail
            refine (hch.out _).mono ?_
            rintro e10 y10 ⟨rfl, hB10⟩
            have k10 := K9'.out.below hB10
            clear hB10 cm7 fm7 cx7 fx7 e8 e9 cm8 fm8 cm9 K9'
            have K10' := Lib.hid k10
            have c10 := k10.x.cell
            simp only at c10
            clear k10
            go_wp2_with fail
            go_roundw
            case rel =>
              go_light
              exact ⟨(G1, G2, G3), (Z1, Z2, Z3, Z4), K10', HP2, HST2, HML, HDET, HNX2⟩
            case measure =>
              have h0 := HCX.out
              have h1 := HDS.out
              simp [intOf, h0, c10]
              exact h1
        · subst e1
          subst e2
          go_wp2_with fail
          refine (hmv.out _).mono ?_
          rintro e5 y5 ⟨rfl, hB5⟩
          have k5 := hK.out.below hB5
          clear hB5 hK cx cy lx ly
          have hzx := k5.o
          obtain ⟨y6, ey6, k6, n6, z6⟩ : ∃ y6, y5.alloc (.cells #[.int .i64 N1, .int .i64 N2, .int .i64 N3, .int .i64 N4] 40) = y6 ∧ KM w y6 (w.heap.size + 1 + 1) X Y (x1', x2', x3') (p, q, s, t) (x1', x2', h3) (n1, n2, n3, n4) ∧ Blk y5.heap.size 40 #[.int .i64 N1, .int .i64 N2, .int .i64 N3, .int .i64 N4] y6 ∧ y6.heap.size = y5.heap.size + 1 :=
            ⟨_, rfl, k5.alloc _, Blk.new y5 _ _, by simp⟩
          clear k5 z6
          obtain ⟨bg, hbg⟩ : ∃ bg, y5.heap.size = bg := ⟨_, rfl⟩
          rw [hbg] at n6
          have cm6 := k6.m.cell
          have cn6 := n6.cell
          have cx6 := k6.x.cell
          have lm6 := k6.m.lt
          have ln6 := n6.lt
          have lx6 := k6.x.lt
          simp only at cm6 cx6
          go_wp2_with fail
          try rw [ey6]
          refine wp_region_past_tail 6 (by kernel_rfl) (by kernel_rfl) ?_
          simp only [List.take_succ_cons, List.take_zero, List.drop_succ_cons, List.drop_zero]
          repeat (first | go_big_quiet_skip | (go_big_quiet_want; go_big_quiet_op; first | go_big_quiet_on | (apply Exists.intro; refine ⟨fun _ => ?_, ?_⟩; (focus (first | (go_at_call 79; exact past_of (hact.out _)) | (go_at_call 80; exact past_of (htim.out _)))); go_big_quiet_on)))
          refine wpQuiet_nil ?_
          intro w10 hw'
          have hB10 := past_below hw'
          clear hw'
          obtain ⟨hC10, hF10⟩ := bcell hB10
          have hS10 := hB10.size
          (try simp at hS10)
          (try have hS10_w0 : w.heap.size < w10.heap.size := by omega)
          (try have hS10_w1 : w.heap.size + 1 < w10.heap.size := by omega)
          (try have hS10_w2 : w.heap.size + 1 + 1 < w10.heap.size := by omega)
          (try have hS10_w3 : w.heap.size + 1 + 1 + 1 < w10.heap.size := by omega)
          (try have hS10_w4 : w.heap.size + 1 + 1 + 1 + 1 < w10.heap.size := by omega)
          (try have hS10_1 : w1.heap.size < w10.heap.size := by omega)
          (try have hS10_2 : w2.heap.size < w10.heap.size := by omega)
          (try have hS10_3 : w3.heap.size < w10.heap.size := by omega)
          (try have hS10_4 : w4.heap.size < w10.heap.size := by omega)
          (try have hS10_5 : w5.heap.size < w10.heap.size := by omega)
          (try have hS10_6 : w6.heap.size < w10.heap.size := by omega)
          (try have hS10_7 : w7.heap.size < w10.heap.size := by omega)
          (try have hS10_8 : w8.heap.size < w10.heap.size := by omega)
          (try have hS10_9 : w9.heap.size < w10.heap.size := by omega)
          (try have hS10_1' : w1.heap.size + 1 < w10.heap.size := by omega)
          (try have hS10_2' : w2.heap.size + 1 < w10.heap.size := by omega)
          (try have hS10_3' : w3.heap.size + 1 < w10.heap.size := by omega)
          (try have hS10_4' : w4.heap.size + 1 < w10.heap.size := by omega)
          (try have hS10_5' : w5.heap.size + 1 < w10.heap.size := by omega)
          (try have hS10_6' : w6.heap.size + 1 < w10.heap.size := by omega)
          (try have hS10_7' : w7.heap.size + 1 < w10.heap.size := by omega)
          (try have hS10_8' : w8.heap.size + 1 < w10.heap.size := by omega)
          (try have hS10_9' : w9.heap.size + 1 < w10.heap.size := by omega)
          have k7 := k6.below hB10
          clear hB10 hC10 hF10 k6 n6 cm6 cn6 cx6 lm6 ln6 lx6 ey6 hbg
          have cx7 := k7.x.cell
          have fx7 := k7.x.froz
          have cm7 := k7.m.cell
          have fm7 := k7.m.froz
          simp only at cm7 cx7
          obtain ⟨y8, e8, kk8, z8, g8⟩ := k7.x.set3 (.int .i64 G1) (.int .i64 G2) (.int .i64 G3)
          have m8 := k7.m.grown g8 (by simp)
          obtain ⟨y9, e9, kk9, z9, g9⟩ := m8.set4 (.int .i64 Z1) (.int .i64 Z2) (.int .i64 Z3) (.int .i64 Z4)
          have k9 : KM w y9 (w.heap.size + 1 + 1) X Y (G1, G2, G3) (Z1, Z2, Z3, Z4) (x1', x2', h3) (n1, n2, n3, n4) :=
            ⟨kk8.grown g9 (by simp), kk9, (k7.y.grown g8 (by simp; omega)).grown g9 (by simp; omega), (k7.n.grown g8 (by simp; omega)).grown g9 (by simp; omega), (k7.r.grown g8 (by simp; omega)).grown g9 (by simp; omega), below_grown (below_grown k7.b g8 (by omega) (by have := k7.b.size; omega)) g9 (by omega) (by have := k7.b.size; omega), k7.o⟩
          have K9' := Lib.hid k9
          have cm8 := m8.cell
          have fm8 := m8.froz
          have cm9 := kk9.cell
          simp only at cm8
          clear k7 g8 z8 kk8 g9 z9 k9 kk9 m8
          cases hmb : mB Z1 Z2 Z3 Z4 with
          | false =>
            have hch : Hid (∀ w0, Calls Try.prog 81 #[.agg #[.int .i64 Z1, .int .i64 Z2, .int .i64 Z3, .int .i64 Z4]] w0 fun en w' => en = .returned (.bool false) ∧ Below w0.heap.size w0 w') := Lib.hid fun w0 => by have h := sMatrix_any Z1 Z2 Z3 Z4 w0; rwa [hmb] at h
            have HC := Lib.hid (HFIN.out _ _ (0, 0, 0, 0) false (HBAD.out (fun h => by have := (mB_mle (M := (Z1, Z2, Z3, Z4))).2 h; rw [hmb] at this; cases this)) (.inl ⟨fun h => (by cases h.1), rfl, rfl⟩))
            clear hmb HBAD HNX HFIN
            go_wp2_with fail
            refine (hch.out _).mono ?_
            rintro e10 y10 ⟨rfl, hB10⟩
            have k10 := K9'.out.below hB10
            have cr : ∀ o, y10.cell? ⟨w.heap.size + 1 + 1, o, none⟩ = (#[.int .i64 0, .int .i64 0, .int .i64 0, .int .i64 0] : Array Value)[o]? := k10.r.cell
            have fr : ∀ o, y10.frozen? ⟨w.heap.size + 1 + 1, o, none⟩ = false := k10.r.froz
            have kb := Lib.hid k10.b
            clear k10 hB10 cm7 fm7 cx7 fx7 e8 e9 cm8 fm8 cm9
            go_wp2_with fail
            refine bodyPost_ret (v := .tuple #[.agg #[.int .i64 0, .int .i64 0, .int .i64 0, .int .i64 0], .bool false]) (by go_light; simp [results, Try.results21, go_sem, *]) rfl ⟨⟨(0, 0, 0, 0), false, rfl, HC.out⟩, ?_⟩
            have hq := kb.out
            repeat (first | with_reducible exact Below.refl _ _ | with_reducible assumption | ((with_reducible refine blA ?_ ?_); (focus (first | omega | (simp <;> omega)))) | (with_reducible refine blD ?_) | (with_reducible refine blN ?_) | ((with_reducible refine blS ?_ ?_); (focus (first | omega | (simp <;> omega)))) | ((with_reducible refine blT (by assumption) ?_ ?_); (focus (first | omega | (simp <;> omega)))))
          | true =>
            have hch : Hid (∀ w0, Calls Try.prog 81 #[.agg #[.int .i64 Z1, .int .i64 Z2, .int .i64 Z3, .int .i64 Z4]] w0 fun en w' => en = .returned (.bool true) ∧ Below w0.heap.size w0 w') := Lib.hid fun w0 => by have h := sMatrix_any Z1 Z2 Z3 Z4 w0; rwa [hmb] at h
            have HML := Lib.hid ((mB_mle (M := (Z1, Z2, Z3, Z4))).1 hmb)
            have HNX2 := Lib.hid (HNX.out HML.out)
            clear hmb HBAD HNX
            go_wp2_with fail
            refine (hch.out _).mono ?_
            rintro e10 y10 ⟨rfl, hB10⟩
            have k10 := K9'.out.below hB10
            clear hB10 cm7 fm7 cx7 fx7 e8 e9 cm8 fm8 cm9 K9'
            have K10' := Lib.hid k10
            have c10 := k10.x.cell
            simp only at c10
            clear k10
            go_wp2_with fail
            go_roundw
            case rel =>
              go_light
              exact ⟨(G1, G2, G3), (Z1, Z2, Z3, Z4), K10', HP2, HST2, HML, HDET, HNX2⟩
            case measure =>
              have h0 := HCX.out
              have h1 := HDS.out
              simp [intOf, h0, c10]
              exact h1
end Go.Proofs.Ytemnkfigjpphgaa
