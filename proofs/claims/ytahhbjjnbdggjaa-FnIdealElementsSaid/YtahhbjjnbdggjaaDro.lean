/-
  The two draws of the law of elements of ideals, from bytes that came in.
-/
import Derived.Test.YtahhbjjnbdggjaaDrn
import Derived.Test.YtahhbjjnbdggjaaIdeal
namespace Go.Proofs.Ytahhbjjnbdggjaa
open Go.RowKit
attribute [local simp, local go_sem] past_cell past_frozen past_tape
/-- A cursor that has just been made. -/
theorem Cur.made {w : World} {a : Option Addr} {len cap : Nat} {t : TypeId} (hc : CodeOk w.heap.size w a len) (hl : len ≤ 140737488355328) : Cur 0 w.heap.size (w.alloc (.cells #[.slice a len cap, .int .i64 0, .int .u64 0] t)) := by
  refine ⟨by simp, a, len, cap, 0, 0, by simp, by simp, by simp, fun o => by simp, by omega, by omega, hl, ?_⟩
  exact hc.keep (by simp) (fun b hb hw => by rw [Below.heap_alloc _ _ _ hw])
theorem CodeOk.up {g g' : Nat} {w w' : World} {a : Option Addr} {len : Nat} (h : CodeOk g w a len) (hg : g ≤ g') (hb : Below w.heap.size w w') : CodeOk g' w' a len := by
  have h2 := h.keep hb.size (fun b _ hw => hb.block b hw)
  rcases h2 with h2 | ⟨b, o, h1, h3, h4⟩
  · exact .inl h2
  · exact .inr ⟨b, o, h1, by omega, h4⟩
theorem below_of_none {w w' : World} (h : w.grownBy w' none) : Below w.heap.size w w' := ⟨h.os, h.tape, h.output, h.size, fun k hk => h.block k hk (by simp)⟩
set_option maxRecDepth 100000 in
set_option maxHeartbeats 8000000 in
theorem drawHasElement_any (a : Option Addr) (len cap : Nat) (w : World) (hc : CodeOk w.heap.size w a len) (hl : len ≤ 140737488355328) :
    Calls Try.prog 29 #[.slice a len cap] w fun e w' => (∃ (d : Int) (x : Int × Int × Int) (u v : Int), e = .returned (.tuple #[.int .i64 d, .agg #[.int .i64 x.1, .int .i64 x.2.1, .int .i64 x.2.2], .int .i64 u, .int .i64 v]) ∧ I64 d ∧ ITri x ∧ I64 u ∧ I64 v) ∧ Below w.heap.size w w' := by
  have hlt : w.heap.size < w.heap.size + 1 := by omega
  go_enter Try.func29, Try.ntmps29
  go_wp2_with fail
  have k0 : Cur 0 (w.heap.size + 1) ((w.alloc (.cells #[.int .i64 0, .int .i64 0, .int .i64 0] 28)).alloc (.cells #[.slice a len cap, .int .i64 0, .int .u64 0] 78)) := by
    have h := Cur.made (w := w.alloc (.cells #[.int .i64 0, .int .i64 0, .int .i64 0] 28)) (cap := cap) (t := 78) (hc.up (by simp) ((Below.refl _ _).alloc (Nat.le_refl _) _)) hl
    simpa using h
  have r0 : Tri w.heap.size 28 0 0 0 ((w.alloc (.cells #[.int .i64 0, .int .i64 0, .int .i64 0] 28)).alloc (.cells #[.slice a len cap, .int .i64 0, .int .u64 0] 78)) := (Tri.new _ _ _ _ _).below (below_alloc _ _)
  have s0 : w.grownBy ((w.alloc (.cells #[.int .i64 0, .int .i64 0, .int .i64 0] 28)).alloc (.cells #[.slice a len cap, .int .i64 0, .int .u64 0] 78)) none := gA (gA (grown_id _ _))
  refine (discDraw_any _ (w.heap.size + 1) _ k0 (by omega)).mono ?_
  rintro e1 w1 ⟨⟨d, rfl, hd, -⟩, k1, g1⟩
  have r1 := r0.grown g1 (by omega)
  have s1 := gO (by omega) g1 s0
  clear r0 k0 s0 g1
  go_wp2_with fail
  refine (anyIdeal_any _ (w.heap.size + 1) d _ k1 (by omega) hd).mono ?_
  rintro e2 w2 ⟨⟨⟨a2, b2, c2⟩, rfl, hx, -⟩, k2, g2⟩
  have r2 := r1.grown g2 (by omega)
  have s2 := gO (by omega) g2 s1
  have z2 := s2.size
  have zr2 := r2.lt
  clear r1 k1 s1 g2
  obtain ⟨bx, hbx⟩ : ∃ bx, w2.heap.size = bx := ⟨_, rfl⟩
  obtain ⟨w3, e3, f3, r3, k3, s3⟩ : ∃ w3, w2.alloc (.cells #[.int .i64 a2, .int .i64 b2, .int .i64 c2] 28) = w3 ∧ Tri bx 28 a2 b2 c2 w3 ∧ Tri w.heap.size 28 0 0 0 w3 ∧ Cur _ (w.heap.size + 1) w3 ∧ w.grownBy w3 none :=
    ⟨_, rfl, by rw [← hbx]; exact Tri.new _ _ _ _ _, r2.below (below_alloc _ _), kA k2, gA s2⟩
  have hk2 := k2.lt
  clear r2 k2 s2
  rw [hbx] at z2 zr2 hk2
  go_wp2_with fail
  try rw [e3]
  refine (one_any _ (w.heap.size + 1) _ _ k3 (by omega) (by omega)).mono ?_
  rintro e4 w4 ⟨⟨x4, rfl, -, -⟩, k4, g4⟩
  have f4 := f3.grown g4 (by omega)
  have r4 := r3.grown g4 (by omega)
  have s4 := gO (by omega) g4 s3
  have fl4 := f4.lt
  have rl4 := r4.lt
  clear f3 r3 k3 s3 g4 e3
  have nb1 : ¬ w.heap.size = bx := by omega
  have nb2 : ¬ bx = w.heap.size := by omega
  have ngb : w.heap.size + 1 ≠ bx := by omega
  cases x4
  · go_wp2_with fail
    refine (pick_any _ (w.heap.size + 1) _ _ k4 (by omega) (by omega)).mono ?_
    rintro e5 w5 ⟨⟨x5, rfl, p5, q5⟩, k5, g5⟩
    go_wp2_with fail
    refine (pick_any _ (w.heap.size + 1) _ _ k5 (by omega) (by omega)).mono ?_
    rintro e6 w6 ⟨⟨x6, rfl, p6, q6⟩, k6, g6⟩
    have f6 := (f4.grown g5 ngb).grown g6 ngb
    have r6 := (r4.grown g5 (by omega)).grown g6 (by omega)
    have s6 := gO (by omega) g6 (gO (by omega) g5 s4)
    have fl6 := f6.lt
    have rl6 := r6.lt
    clear f4 r4 s4 k4 k5 g5 g6 k6
    have hw1 : wrap64 (x5 - 10) = x5 - 10 := by unfold wrap64; omega
    have hw2 : wrap64 (x6 - 4) = x6 - 4 := by unfold wrap64; omega
    go_wp2_with fail
    refine region_mixG w.heap.size 25 [0, 1, 2, 3, 4, 5, 6, 7, 8, 9, 10, 11, 12, 13, 14, 15, 16, 17, 18, 19, 20, 21, 22] [(false, 23), (true, 24)] (by kernel_rfl) (by kernel_rfl) (by kernel_rfl) ?_
    apply Exists.intro
    refine ⟨fun w0 g0 => ?_, ?_⟩
    · have f0 := f6.grown g0 nb1; have l0 := f0.lt; obtain ⟨v00, v01, v02, -⟩ := f0.at_
      simp only [List.filterMap_cons, List.filterMap_nil, List.getElem?_cons_zero, List.getElem?_cons_succ]
      show wpQuiet _ _ _ _ [_, _, _, _, _, _, _, _, _, _, _, _, _, _, _, _, _, _, _, _, _, _, _] _
      repeat (first | go_big_quiet_skip | (go_big_quiet_want; go_big_quiet_op; first | go_big_quiet_on | (apply Exists.intro; refine ⟨fun _ => ?_, ?_⟩; (focus (fail)); go_big_quiet_on)))
      refine wpQuiet_nil ?_
      rfl
    intro W hW hWz
    simp only [List.filterMap_cons, List.filterMap_nil, List.getElem?_cons_zero, List.getElem?_cons_succ, Option.map_some, List.drop_succ_cons, List.drop_zero]
    show effWG _ _ _ _ [(false, _), (true, _)] _ _
    refine effG_of fun wa hBa => ?_
    have ra := (r6.below hW).below hBa
    have sa := gB hBa (gB hW s6)
    obtain ⟨w7, e7, r7, z7, g7⟩ := ra.set a2 b2 c2
    obtain ⟨n0, n1, n2, n3⟩ := ra.at_
    go_wp2_with fail
    try rw [e7]
    refine effR_of rfl g7 ?_
    refine effQuietG (by kernel_rfl) ?_
    apply Exists.intro
    refine ⟨fun w0 g0 => ?_, ?_⟩
    · repeat (first | go_big_quiet_skip | (go_big_quiet_want; go_big_quiet_op; first | go_big_quiet_on | (apply Exists.intro; refine ⟨fun _ => ?_, ?_⟩; (focus (fail)); go_big_quiet_on)))
      refine wpQuiet_nil ?_
      rfl
    intro w8 hV
    have hB8 := past_below hV
    have r8 := r7.below hB8
    have s8 := gB hB8 (gO (by omega) g7 sa)
    obtain ⟨m0, m1, m2, m3⟩ := r8.at_
    clear hV hB8 g7 sa ra hBa hW r6 s6 f6 n0 n1 n2 n3 e7 r7
    go_wp2_with fail
    refine bodyPost_ret (v := .tuple #[.int .i64 d, .agg #[.int .i64 a2, .int .i64 b2, .int .i64 c2], .int .i64 (wrap64 (wrap64 (wrap64 (wrap64 (2 * a2) * b2) * (x5 - 10)) - wrap64 (wrap64 ((x6 - 4) * a2) * c2))), .int .i64 (wrap64 ((x6 - 4) * a2))]) (by go_light; simp [results, Try.results29, go_sem, *]) rfl ⟨⟨d, (a2, b2, c2), _, _, rfl, hd, hx, wrap64_I _, wrap64_I _⟩, ?_⟩
    exact below_of_none s8
  · go_wp2_with fail
    refine region_mixG (w.heap.size+1) 7 [0, 1, 2, 4] [(false, 3), (false, 5), (true, 6)] (by kernel_rfl) (by kernel_rfl) (by kernel_rfl) ?_
    apply Exists.intro
    refine ⟨fun w0 g0 => ?_, ?_⟩
    · have f0 := f4.grown g0 ngb; have l0 := f0.lt; obtain ⟨v00, v01, v02, -⟩ := f0.at_
      simp only [List.filterMap_cons, List.filterMap_nil, List.getElem?_cons_zero, List.getElem?_cons_succ]
      show wpQuiet _ _ _ _ [_, _, _, _] _
      repeat (first | go_big_quiet_skip | (go_big_quiet_want; go_big_quiet_op; first | go_big_quiet_on | (apply Exists.intro; refine ⟨fun _ => ?_, ?_⟩; (focus (fail)); go_big_quiet_on)))
      refine wpQuiet_nil ?_
      rfl
    intro W hW hWz
    simp only [List.filterMap_cons, List.filterMap_nil, List.getElem?_cons_zero, List.getElem?_cons_succ, Option.map_some, List.drop_succ_cons, List.drop_zero]
    show effWG _ _ _ _ [(false, _), (false, _), (true, _)] _ _
    refine effG_of fun wa hBa => ?_
    go_wp2_with fail
    refine (small_any _ (w.heap.size + 1) _ (kB hBa (kB hW k4)) (by omega)).mono ?_
    rintro e5 w5 ⟨⟨u, rfl, hu, -⟩, k5, g5⟩
    go_wp2
    refine effR_of rfl g5 ?_
    refine effG_of fun wc hBc => ?_
    go_wp2_with fail
    refine (small_any _ (w.heap.size + 1) _ (kB hBc k5) (by omega)).mono ?_
    rintro e6 w6 ⟨⟨v, rfl, hv, -⟩, k6, g6⟩
    go_wp2
    refine effR_of rfl g6 ?_
    refine effQuietG (by kernel_rfl) ?_
    apply Exists.intro
    refine ⟨fun w0 g0 => ?_, ?_⟩
    · repeat (first | go_big_quiet_skip | (go_big_quiet_want; go_big_quiet_op; first | go_big_quiet_on | (apply Exists.intro; refine ⟨fun _ => ?_, ?_⟩; (focus (fail)); go_big_quiet_on)))
      refine wpQuiet_nil ?_
      rfl
    intro w7 hV
    have hB7 := past_below hV
    have r7 := ((((r4.below hW).below hBa).grown g5 (by omega)).below hBc).grown g6 (by omega) |>.below hB7
    have s7 : w.grownBy w7 none := gB hB7 (gO (by omega) g6 (gB hBc (gO (by omega) g5 (gB hBa (gB hW s4)))))
    clear hV hB7 g6 g5 hBc hBa hW k5 k6 f4 r4 k4 s4
    obtain ⟨w8, e8, r8, z8, g8⟩ := r7.set a2 b2 c2
    obtain ⟨y0, y1, y2, y3⟩ := r7.at_
    have s8 := gO (by omega) g8 s7
    obtain ⟨n0, n1, n2, n3⟩ := r8.at_
    go_wp2_with fail
    refine bodyPost_ret (v := .tuple #[.int .i64 d, .agg #[.int .i64 a2, .int .i64 b2, .int .i64 c2], .int .i64 u, .int .i64 v]) (by go_light; simp [results, Try.results29, go_sem, *]) rfl ⟨⟨d, (a2, b2, c2), u, v, rfl, hd, hx, hu, hv⟩, ?_⟩
    exact below_of_none s8
theorem idConjugate_any (d e a b : Int) (w : World) (h : idB d e a b = true) :
    Calls Try.prog 75 #[.agg #[.int .i64 e, .int .i64 a, .int .i64 b]] w fun en w' => en = .returned (.agg #[.int .i64 e, .int .i64 a, .int .i64 ((-b) % (2 * a))]) ∧ Below w.heap.size w w' := by
  obtain ⟨-, h1, h2, h3, h4, h5, h6, -⟩ := idB_true h
  have hw1 : wrap64 (2 * a) = 2 * a := by unfold wrap64; omega
  have hw2 : wrap64 (-b) = -b := by unfold wrap64; omega
  have hnb : I64 (-b) := ⟨by omega, by omega⟩
  go_enter Try.func75, Try.ntmps75
  go_wp2_with fail
  refine wp_region_past_tail 12 (by kernel_rfl) (by kernel_rfl) ?_
  simp only [List.take_succ_cons, List.take_zero, List.drop_succ_cons, List.drop_zero]
  repeat (first | go_big_quiet_skip | (go_big_quiet_want; go_big_quiet_op; first | go_big_quiet_on | (apply Exists.intro; refine ⟨fun _ => ?_, ?_⟩; (focus ((go_at_call 50; exact past_same (nuMod_any (-b) (2 * a) _ hnb (by omega) (by omega))))); go_big_quiet_on)))
  refine wpQuiet_nil ?_
  intro w1 hw'
  have hB1 := past_below hw'
  clear hw'
  obtain ⟨hC1, hF1⟩ := bcell hB1
  have hS1 := hB1.size
  (try simp at hS1)
  (try have hS1_w0 : w.heap.size < w1.heap.size := by omega)
  (try have hS1_w1 : w.heap.size + 1 < w1.heap.size := by omega)
  (try have hS1_w2 : w.heap.size + 1 + 1 < w1.heap.size := by omega)
  (try have hS1_w3 : w.heap.size + 1 + 1 + 1 < w1.heap.size := by omega)
  (try have hS1_w4 : w.heap.size + 1 + 1 + 1 + 1 < w1.heap.size := by omega)
  go_wp2_with fail
  refine bodyPost_ret (v := .agg #[.int .i64 e, .int .i64 a, .int .i64 ((-b) % (2 * a))]) (by go_light; simp [results, Try.results75, go_sem, *]) rfl ⟨rfl, ?_⟩
  repeat (first | with_reducible exact Below.refl _ _ | with_reducible assumption | ((with_reducible refine blA ?_ ?_); (focus (first | omega | (simp <;> omega)))) | (with_reducible refine blD ?_) | (with_reducible refine blN ?_) | ((with_reducible refine blS ?_ ?_); (focus (first | omega | (simp <;> omega)))) | ((with_reducible refine blT (by assumption) ?_ ?_); (focus (first | omega | (simp <;> omega)))))
set_option maxRecDepth 100000 in
set_option maxHeartbeats 8000000 in
theorem drawIdealProduct_any (a : Option Addr) (len cap : Nat) (w : World) (hc : CodeOk w.heap.size w a len) (hl : len ≤ 140737488355328) :
    Calls Try.prog 61 #[.slice a len cap] w fun e w' => (∃ (d : Int) (x y : Int × Int × Int), e = .returned (.tuple #[.int .i64 d, .agg #[.int .i64 x.1, .int .i64 x.2.1, .int .i64 x.2.2], .agg #[.int .i64 y.1, .int .i64 y.2.1, .int .i64 y.2.2]]) ∧ I64 d ∧ ITri x ∧ ITri y) ∧ Below w.heap.size w w' := by
  have hlt : w.heap.size < w.heap.size + 1 := by omega
  go_enter Try.func61, Try.ntmps61
  go_wp2_with fail
  obtain ⟨W0, hW0, hW0b, hW0s⟩ : ∃ W0, ((w.alloc (.cells #[.int .i64 0, .int .i64 0, .int .i64 0] 28)).alloc (.cells #[.int .i64 0, .int .i64 0, .int .i64 0] 28)) = W0 ∧ Below w.heap.size w W0 ∧ W0.heap.size = w.heap.size + 1 + 1 := ⟨_, rfl, ((Below.refl _ _).alloc (Nat.le_refl _) _).alloc (by simp) _, by simp⟩
  have k0 : Cur 0 (w.heap.size + 1 + 1) (W0.alloc (.cells #[.slice a len cap, .int .i64 0, .int .u64 0] 78)) := by
    have h := Cur.made (w := W0) (cap := cap) (t := 78) (hc.up (by omega) hW0b) hl
    rw [hW0s] at h
    exact h
  have r0 : Tri w.heap.size 28 0 0 0 (W0.alloc (.cells #[.slice a len cap, .int .i64 0, .int .u64 0] 78)) := by
    rw [← hW0]
    exact ((Tri.new _ _ _ _ _).below (below_alloc _ _)).below (below_alloc _ _)
  have q0 : Tri (w.heap.size + 1) 28 0 0 0 (W0.alloc (.cells #[.slice a len cap, .int .i64 0, .int .u64 0] 78)) := by
    rw [← hW0]
    have h := (Tri.new (w.alloc (.cells #[.int .i64 0, .int .i64 0, .int .i64 0] 28)) 28 0 0 0).below (below_alloc _ (.cells #[.slice a len cap, .int .i64 0, .int .u64 0] 78))
    simpa using h
  have s0 : w.grownBy (W0.alloc (.cells #[.slice a len cap, .int .i64 0, .int .u64 0] 78)) none := gA (grown_of hW0b _)
  try rw [hW0]
  refine (discDraw_any _ (w.heap.size + 1 + 1) _ k0 (by omega)).mono ?_
  rintro e1 w1 ⟨⟨d, rfl, hd, -⟩, k1, g1⟩
  have r1 := r0.grown g1 (by omega)
  have q1 := q0.grown g1 (by omega)
  have s1 := gO (by omega) g1 s0
  clear r0 q0 k0 s0 g1 hW0b hW0s hW0
  go_wp2_with fail
  refine (anyIdeal_any _ (w.heap.size + 1 + 1) d _ k1 (by omega) hd).mono ?_
  rintro e2 w2 ⟨⟨⟨a2, b2, c2⟩, rfl, hx, -⟩, k2, g2⟩
  have r2 := r1.grown g2 (by omega)
  have q2 := q1.grown g2 (by omega)
  have s2 := gO (by omega) g2 s1
  have zr2 := q2.lt
  clear r1 q1 k1 s1 g2
  obtain ⟨bx, hbx⟩ : ∃ bx, w2.heap.size = bx := ⟨_, rfl⟩
  obtain ⟨w3, e3, f3, r3, q3, k3, s3⟩ : ∃ w3, w2.alloc (.cells #[.int .i64 a2, .int .i64 b2, .int .i64 c2] 28) = w3 ∧ Tri bx 28 a2 b2 c2 w3 ∧ Tri w.heap.size 28 0 0 0 w3 ∧ Tri (w.heap.size + 1) 28 0 0 0 w3 ∧ Cur _ (w.heap.size + 1 + 1) w3 ∧ w.grownBy w3 none :=
    ⟨_, rfl, by rw [← hbx]; exact Tri.new _ _ _ _ _, r2.below (below_alloc _ _), q2.below (below_alloc _ _), kA k2, gA s2⟩
  have hk2 := k2.lt
  clear r2 q2 k2 s2
  rw [hbx] at zr2 hk2
  go_wp2_with fail
  try rw [e3]
  refine (one_any _ (w.heap.size + 1 + 1) _ _ k3 (by omega) (by omega)).mono ?_
  rintro e4 w4 ⟨⟨x4, rfl, -, -⟩, k4, g4⟩
  have f4 := f3.grown g4 (by omega)
  have r4 := r3.grown g4 (by omega)
  have q4 := q3.grown g4 (by omega)
  have s4 := gO (by omega) g4 s3
  have fl4 := f4.lt
  have rl4 := r4.lt
  have ql4 := q4.lt
  clear f3 r3 q3 k3 s3 g4 e3
  have nb1 : ¬ w.heap.size = bx := by omega
  have nb2 : ¬ bx = w.heap.size := by omega
  have nb3 : ¬ w.heap.size + 1 = bx := by omega
  have nb4 : ¬ bx = w.heap.size + 1 := by omega
  have ngb : w.heap.size + 1 + 1 ≠ bx := by omega
  obtain ⟨y0, y1, y2, y3⟩ := f4.at_
  cases x4
  · go_wp2_with fail
    refine region_mixG (w.heap.size+1+1) 6 [0, 1, 2, 3] [(false, 4), (true, 5)] (by kernel_rfl) (by kernel_rfl) (by kernel_rfl) ?_
    apply Exists.intro
    refine ⟨fun w0 g0 => ?_, ?_⟩
    · have f0 := f4.grown g0 ngb; have l0 := f0.lt; obtain ⟨v00, v01, v02, -⟩ := f0.at_
      simp only [List.filterMap_cons, List.filterMap_nil, List.getElem?_cons_zero, List.getElem?_cons_succ]
      show wpQuiet _ _ _ _ [_, _, _, _] _
      repeat (first | go_big_quiet_skip | (go_big_quiet_want; go_big_quiet_op; first | go_big_quiet_on | (apply Exists.intro; refine ⟨fun _ => ?_, ?_⟩; (focus (fail)); go_big_quiet_on)))
      refine wpQuiet_nil ?_
      rfl
    intro W hW hWz
    simp only [List.filterMap_cons, List.filterMap_nil, List.getElem?_cons_zero, List.getElem?_cons_succ, Option.map_some, List.drop_succ_cons, List.drop_zero]
    show effWG _ _ _ _ [(false, _), (true, _)] _ _
    refine effG_of fun wa hBa => ?_
    go_wp2_with fail
    refine (anyIdeal_any _ (w.heap.size + 1 + 1) d _ (kB hBa (kB hW k4)) (by omega) hd).mono ?_
    rintro e7 w7 ⟨⟨⟨a7, b7, c7⟩, rfl, hy, -⟩, k7, g7⟩
    go_wp2
    refine effR_of rfl g7 ?_
    refine effQuietG (by kernel_rfl) ?_
    apply Exists.intro
    refine ⟨fun w0 g0 => ?_, ?_⟩
    · repeat (first | go_big_quiet_skip | (go_big_quiet_want; go_big_quiet_op; first | go_big_quiet_on | (apply Exists.intro; refine ⟨fun _ => ?_, ?_⟩; (focus (fail)); go_big_quiet_on)))
      refine wpQuiet_nil ?_
      rfl
    intro w8 hV
    have hB8 := past_below hV
    have r8 := (((r4.below hW).below hBa).grown g7 (by omega)).below hB8
    have q8 := (((q4.below hW).below hBa).grown g7 (by omega)).below hB8
    have s8 : w.grownBy w8 none := gB hB8 (gO (by omega) g7 (gB hBa (gB hW s4)))
    clear hV hB8 g7 hBa hW k7 f4 k4 r4 q4 s4
    obtain ⟨w9, e9, r9, z9, g9⟩ := r8.set a2 b2 c2
    have q9 := q8.grown g9 (by omega)
    have s9 := gO (by omega) g9 s8
    obtain ⟨w10, e10, q10, z10, g10⟩ := q9.set a7 b7 c7
    have r10 := r9.grown g10 (by omega)
    have s10 := gO (by omega) g10 s9
    obtain ⟨m0, m1, m2, m3⟩ := r8.at_
    obtain ⟨n0, n1, n2, n3⟩ := q9.at_
    obtain ⟨u0, u1, u2, u3⟩ := q10.at_
    obtain ⟨v0, v1, v2, v3⟩ := r10.at_
    clear g9 g10 s8 s9 r8 q8 r9 q9
    go_wp2_with fail
    refine bodyPost_ret (v := .tuple #[.int .i64 d, .agg #[.int .i64 a2, .int .i64 b2, .int .i64 c2], .agg #[.int .i64 a7, .int .i64 b7, .int .i64 c7]]) (by go_light; simp [results, Try.results61, go_sem, *]) rfl ⟨⟨d, (a2, b2, c2), (a7, b7, c7), rfl, hd, hx, hy⟩, ?_⟩
    exact below_of_none s10
  · go_wp2_with fail
    refine (reDisc_any d _ hd).mono ?_
    rintro e5 w5 ⟨rfl, rfl⟩
    cases hnd : negB d
    · go_wp2_with fail
      refine region_mixG (w.heap.size+1+1) 6 [0, 1, 2, 3] [(false, 4), (true, 5)] (by kernel_rfl) (by kernel_rfl) (by kernel_rfl) ?_
      apply Exists.intro
      refine ⟨fun w0 g0 => ?_, ?_⟩
      · have f0 := f4.grown g0 ngb; have l0 := f0.lt; obtain ⟨v00, v01, v02, -⟩ := f0.at_
        simp only [List.filterMap_cons, List.filterMap_nil, List.getElem?_cons_zero, List.getElem?_cons_succ]
        show wpQuiet _ _ _ _ [_, _, _, _] _
        repeat (first | go_big_quiet_skip | (go_big_quiet_want; go_big_quiet_op; first | go_big_quiet_on | (apply Exists.intro; refine ⟨fun _ => ?_, ?_⟩; (focus (fail)); go_big_quiet_on)))
        refine wpQuiet_nil ?_
        rfl
      intro W hW hWz
      simp only [List.filterMap_cons, List.filterMap_nil, List.getElem?_cons_zero, List.getElem?_cons_succ, Option.map_some, List.drop_succ_cons, List.drop_zero]
      show effWG _ _ _ _ [(false, _), (true, _)] _ _
      refine effG_of fun wa hBa => ?_
      go_wp2_with fail
      refine (anyIdeal_any _ (w.heap.size + 1 + 1) d _ (kB hBa (kB hW k4)) (by omega) hd).mono ?_
      rintro e7 w7 ⟨⟨⟨a7, b7, c7⟩, rfl, hy, -⟩, k7, g7⟩
      go_wp2
      refine effR_of rfl g7 ?_
      refine effQuietG (by kernel_rfl) ?_
      apply Exists.intro
      refine ⟨fun w0 g0 => ?_, ?_⟩
      · repeat (first | go_big_quiet_skip | (go_big_quiet_want; go_big_quiet_op; first | go_big_quiet_on | (apply Exists.intro; refine ⟨fun _ => ?_, ?_⟩; (focus (fail)); go_big_quiet_on)))
        refine wpQuiet_nil ?_
        rfl
      intro w8 hV
      have hB8 := past_below hV
      have r8 := (((r4.below hW).below hBa).grown g7 (by omega)).below hB8
      have q8 := (((q4.below hW).below hBa).grown g7 (by omega)).below hB8
      have s8 : w.grownBy w8 none := gB hB8 (gO (by omega) g7 (gB hBa (gB hW s4)))
      clear hV hB8 g7 hBa hW k7 f4 k4 r4 q4 s4
      obtain ⟨w9, e9, r9, z9, g9⟩ := r8.set a2 b2 c2
      have q9 := q8.grown g9 (by omega)
      have s9 := gO (by omega) g9 s8
      obtain ⟨w10, e10, q10, z10, g10⟩ := q9.set a7 b7 c7
      have r10 := r9.grown g10 (by omega)
      have s10 := gO (by omega) g10 s9
      obtain ⟨m0, m1, m2, m3⟩ := r8.at_
      obtain ⟨n0, n1, n2, n3⟩ := q9.at_
      obtain ⟨u0, u1, u2, u3⟩ := q10.at_
      obtain ⟨v0, v1, v2, v3⟩ := r10.at_
      clear g9 g10 s8 s9 r8 q8 r9 q9
      go_wp2_with fail
      refine bodyPost_ret (v := .tuple #[.int .i64 d, .agg #[.int .i64 a2, .int .i64 b2, .int .i64 c2], .agg #[.int .i64 a7, .int .i64 b7, .int .i64 c7]]) (by go_light; simp [results, Try.results61, go_sem, *]) rfl ⟨⟨d, (a2, b2, c2), (a7, b7, c7), rfl, hd, hx, hy⟩, ?_⟩
      exact below_of_none s10
    · go_wp2_with fail
      refine (idGood_any d a2 b2 c2 _ hd).mono ?_
      rintro e5 w5 ⟨rfl, hB5⟩
      have f5 := f4.below hB5
      have r5 := r4.below hB5
      have q5 := q4.below hB5
      have k5 := kB hB5 k4
      have s5 := gB hB5 s4
      have fl5 := f5.lt
      have rl5 := r5.lt
      have ql5 := q5.lt
      clear f4 r4 q4 k4 s4 hB5 y0 y1 y2 y3
      obtain ⟨y0, y1, y2, y3⟩ := f5.at_
      cases hid : idB d a2 b2 c2
      · go_wp2_with fail
        refine region_mixG (w.heap.size+1+1) 6 [0, 1, 2, 3] [(false, 4), (true, 5)] (by kernel_rfl) (by kernel_rfl) (by kernel_rfl) ?_
        apply Exists.intro
        refine ⟨fun w0 g0 => ?_, ?_⟩
        · have f0 := f5.grown g0 ngb; have l0 := f0.lt; obtain ⟨v00, v01, v02, -⟩ := f0.at_
          simp only [List.filterMap_cons, List.filterMap_nil, List.getElem?_cons_zero, List.getElem?_cons_succ]
          show wpQuiet _ _ _ _ [_, _, _, _] _
          repeat (first | go_big_quiet_skip | (go_big_quiet_want; go_big_quiet_op; first | go_big_quiet_on | (apply Exists.intro; refine ⟨fun _ => ?_, ?_⟩; (focus (fail)); go_big_quiet_on)))
          refine wpQuiet_nil ?_
          rfl
        intro W hW hWz
        simp only [List.filterMap_cons, List.filterMap_nil, List.getElem?_cons_zero, List.getElem?_cons_succ, Option.map_some, List.drop_succ_cons, List.drop_zero]
        show effWG _ _ _ _ [(false, _), (true, _)] _ _
        refine effG_of fun wa hBa => ?_
        go_wp2_with fail
        refine (anyIdeal_any _ (w.heap.size + 1 + 1) d _ (kB hBa (kB hW k5)) (by omega) hd).mono ?_
        rintro e7 w7 ⟨⟨⟨a7, b7, c7⟩, rfl, hy, -⟩, k7, g7⟩
        go_wp2
        refine effR_of rfl g7 ?_
        refine effQuietG (by kernel_rfl) ?_
        apply Exists.intro
        refine ⟨fun w0 g0 => ?_, ?_⟩
        · repeat (first | go_big_quiet_skip | (go_big_quiet_want; go_big_quiet_op; first | go_big_quiet_on | (apply Exists.intro; refine ⟨fun _ => ?_, ?_⟩; (focus (fail)); go_big_quiet_on)))
          refine wpQuiet_nil ?_
          rfl
        intro w8 hV
        have hB8 := past_below hV
        have r8 := (((r5.below hW).below hBa).grown g7 (by omega)).below hB8
        have q8 := (((q5.below hW).below hBa).grown g7 (by omega)).below hB8
        have s8 : w.grownBy w8 none := gB hB8 (gO (by omega) g7 (gB hBa (gB hW s5)))
        clear hV hB8 g7 hBa hW k7 f5 k5 r5 q5 s5
        obtain ⟨w9, e9, r9, z9, g9⟩ := r8.set a2 b2 c2
        have q9 := q8.grown g9 (by omega)
        have s9 := gO (by omega) g9 s8
        obtain ⟨w10, e10, q10, z10, g10⟩ := q9.set a7 b7 c7
        have r10 := r9.grown g10 (by omega)
        have s10 := gO (by omega) g10 s9
        obtain ⟨m0, m1, m2, m3⟩ := r8.at_
        obtain ⟨n0, n1, n2, n3⟩ := q9.at_
        obtain ⟨u0, u1, u2, u3⟩ := q10.at_
        obtain ⟨v0, v1, v2, v3⟩ := r10.at_
        clear g9 g10 s8 s9 r8 q8 r9 q9
        go_wp2_with fail
        refine bodyPost_ret (v := .tuple #[.int .i64 d, .agg #[.int .i64 a2, .int .i64 b2, .int .i64 c2], .agg #[.int .i64 a7, .int .i64 b7, .int .i64 c7]]) (by go_light; simp [results, Try.results61, go_sem, *]) rfl ⟨⟨d, (a2, b2, c2), (a7, b7, c7), rfl, hd, hx, hy⟩, ?_⟩
        exact below_of_none s10
      · go_wp2_with fail
        have hy0 : ITri (a2, b2, (-c2) % (2 * b2)) := by
          obtain ⟨-, h1, h2, h3, h4, h5, h6, -⟩ := idB_true hid
          have hm0 := Int.emod_nonneg (-c2) (show 2 * b2 ≠ 0 by omega)
          have hm1 := Int.emod_lt_of_pos (-c2) (show 0 < 2 * b2 by omega)
          exact ⟨hx.1, hx.2.1, ⟨by simp only; omega, by simp only; omega⟩⟩
        obtain ⟨b7, hb7⟩ : ∃ z, (-c2) % (2 * b2) = z := ⟨_, rfl⟩
        rw [hb7] at hy0
        refine wp_region_past_tail 5 (by kernel_rfl) (by kernel_rfl) ?_
        simp only [List.take_succ_cons, List.take_zero, List.drop_succ_cons, List.drop_zero]
        repeat (first | go_big_quiet_skip | (go_big_quiet_want; go_big_quiet_op; first | go_big_quiet_on | (apply Exists.intro; refine ⟨fun _ => ?_, ?_⟩; (focus ((go_at_call 75; exact past_of (idConjugate_any _ _ _ _ _ hid)))); go_big_quiet_on)))
        refine wpQuiet_nil ?_
        intro w1 hw'
        have hB1 := past_below hw'
        clear hw'
        obtain ⟨hC1, hF1⟩ := bcell hB1
        have hS1 := hB1.size
        (try simp at hS1)
        (try have hS1_w0 : w.heap.size < w1.heap.size := by omega)
        (try have hS1_w1 : w.heap.size + 1 < w1.heap.size := by omega)
        (try have hS1_w2 : w.heap.size + 1 + 1 < w1.heap.size := by omega)
        (try have hS1_w3 : w.heap.size + 1 + 1 + 1 < w1.heap.size := by omega)
        (try have hS1_w4 : w.heap.size + 1 + 1 + 1 + 1 < w1.heap.size := by omega)
        have r8 := r5.below hB1
        have q8 := q5.below hB1
        have s8 := gB hB1 s5
        clear hB1 hC1 hF1 f5 k5 r5 q5 s5
        obtain ⟨w9, e9, r9, z9, g9⟩ := r8.set a2 b2 c2
        have q9 := q8.grown g9 (by omega)
        have s9 := gO (by omega) g9 s8
        obtain ⟨w10, e10, q10, z10, g10⟩ := q9.set a2 b2 b7
        have r10 := r9.grown g10 (by omega)
        have s10 := gO (by omega) g10 s9
        obtain ⟨m0, m1, m2, m3⟩ := r8.at_
        obtain ⟨n0, n1, n2, n3⟩ := q9.at_
        obtain ⟨u0, u1, u2, u3⟩ := q10.at_
        obtain ⟨v0, v1, v2, v3⟩ := r10.at_
        clear g9 g10 s8 s9 r8 q8 r9 q9
        try simp only [hb7]
        go_wp2_with fail
        refine bodyPost_ret (v := .tuple #[.int .i64 d, .agg #[.int .i64 a2, .int .i64 b2, .int .i64 c2], .agg #[.int .i64 a2, .int .i64 b2, .int .i64 b7]]) (by go_light; simp [results, Try.results61, go_sem, *]) rfl ⟨⟨d, (a2, b2, c2), (a2, b2, b7), rfl, hd, hx, hy0⟩, ?_⟩
        exact below_of_none s10
theorem drawIdealSum_any (a : Option Addr) (len cap : Nat) (w : World) (hc : CodeOk w.heap.size w a len) (hl : len ≤ 140737488355328) :
    Calls Try.prog 31 #[.slice a len cap] w fun e w' => (∃ (d : Int) (x y : Int × Int × Int), e = .returned (.tuple #[.int .i64 d, .agg #[.int .i64 x.1, .int .i64 x.2.1, .int .i64 x.2.2], .agg #[.int .i64 y.1, .int .i64 y.2.1, .int .i64 y.2.2]]) ∧ I64 d ∧ ITri x ∧ ITri y) ∧ Below w.heap.size w w' := by
  go_enter Try.func31, Try.ntmps31
  go_wp2_with fail
  refine (drawIdealProduct_any a len cap _ (hc.up (by simp; omega) (((Below.refl _ _).alloc (Nat.le_refl _) _).alloc (by simp) _)) hl).mono ?_
  rintro e1 w1 ⟨⟨d, ⟨a2, b2, c2⟩, ⟨a7, b7, c7⟩, rfl, hd, hx, hy⟩, hB1⟩
  have r8 : Tri w.heap.size 28 0 0 0 w1 := ((Tri.new w 28 0 0 0).below (below_alloc _ _)).below hB1
  have q8 : Tri (w.heap.size + 1) 28 0 0 0 w1 := by
    have h := (Tri.new (w.alloc (.cells #[.int .i64 0, .int .i64 0, .int .i64 0] 28)) 28 0 0 0).below hB1
    simpa using h
  have s8 : w.grownBy w1 none := gB hB1 (gA (gA (grown_id _ _)))
  clear hB1
  obtain ⟨w9, e9, r9, z9, g9⟩ := r8.set a2 b2 c2
  have q9 := q8.grown g9 (by omega)
  have s9 := gO (by omega) g9 s8
  obtain ⟨w10, e10, q10, z10, g10⟩ := q9.set a7 b7 c7
  have r10 := r9.grown g10 (by omega)
  have s10 := gO (by omega) g10 s9
  obtain ⟨m0, m1, m2, m3⟩ := r8.at_
  obtain ⟨n0, n1, n2, n3⟩ := q9.at_
  obtain ⟨u0, u1, u2, u3⟩ := q10.at_
  obtain ⟨v0, v1, v2, v3⟩ := r10.at_
  clear g9 g10 s8 s9 r8 q8 r9 q9
  go_wp2_with fail
  refine bodyPost_ret (v := .tuple #[.int .i64 d, .agg #[.int .i64 a2, .int .i64 b2, .int .i64 c2], .agg #[.int .i64 a7, .int .i64 b7, .int .i64 c7]]) (by go_light; simp [results, Try.results31, go_sem, *]) rfl ⟨⟨d, (a2, b2, c2), (a7, b7, c7), rfl, hd, hx, hy⟩, ?_⟩
  exact below_of_none s10
end Go.Proofs.Ytahhbjjnbdggjaa
