/-
  The draws of FnCycleMatrices and FnUnits, from bytes that came in.
-/
import Derived.Test.YtemnkfigjpphgaaIdr
import Derived.Test.YtemnkfigjpphgaaIrc
namespace Go.Proofs.Ytemnkfigjpphgaa
open Go.RowKit
attribute [local simp, local go_sem] past_cell past_frozen past_tape
/-- A cursor that has just been made. -/
theorem Cur.made {w : World} {a : Option Addr} {len cap : Nat} {t : TypeId} (hc : CodeOk w.heap.size w a len) (hl : len ≤ 140737488355328) : Cur 0 w.heap.size (w.alloc (.cells #[.slice a len cap, .int .i64 0, .int .u64 0] t)) := by
  refine ⟨by simp, a, len, cap, 0, 0, by simp, by simp, by simp, fun o => by simp, by omega, by omega, hl, ?_⟩
  exact hc.keep (by simp) (fun b hb hw => by rw [Below.heap_alloc _ _ _ hw])
theorem CodeOk.up {g g' : Nat} {w w' : World} {a : Option Addr} {len : Nat} (h : CodeOk g w a len) (hg : g ≤ g') (hb : Below w.heap.size w w') : CodeOk g' w' a len := by
  have h2 := h.keep hb.size (fun b _ hw => hb.block b hw)
  rcases h2 with h2 | ⟨b, o, h1, h3, h4⟩
  · exact .inl h2
  · exact .inr ⟨b, o, h1, by omega, h4⟩
theorem below_of_none {w w' : World} (h : w.grownBy w' none) : Below w.heap.size w w' := ⟨h.os, h.tape, h.output, h.size, fun k hk => h.block k hk (by simp)⟩
set_option maxRecDepth 100000 in
set_option maxHeartbeats 8000000 in
theorem drawIsIndefinite_any (a : Option Addr) (len cap : Nat) (w : World) (hc : CodeOk w.heap.size w a len) (hl : len ≤ 140737488355328) :
    Calls Try.prog 86 #[.slice a len cap] w fun e w' => (∃ x : Fm, e = .returned (.agg #[.int .i64 x.1, .int .i64 x.2.1, .int .i64 x.2.2])) ∧ Below w.heap.size w w' := by
  go_enter Try.func86, Try.ntmps86
  go_wp2_with fail
  have k0 : Cur 0 (w.heap.size + 1) ((w.alloc (.cells #[.int .i64 0, .int .i64 0, .int .i64 0] 36)).alloc (.cells #[.slice a len cap, .int .i64 0, .int .u64 0] 67)) := by
    have h := Cur.made (w := w.alloc (.cells #[.int .i64 0, .int .i64 0, .int .i64 0] 36)) (cap := cap) (t := 67) (hc.up (by simp) ((Below.refl _ _).alloc (Nat.le_refl _) _)) hl
    simpa using h
  refine (indefinite_any _ (w.heap.size + 1) _ k0 (by omega)).mono ?_
  rintro e1 w1 ⟨⟨⟨p, q, r⟩, rfl, -, -⟩, k1, g1⟩
  have r1 := ((Blk.new w 36 #[.int .i64 0, .int .i64 0, .int .i64 0]).alloc _).grown g1 (fun e => by have := Option.some.inj e; omega)
  have z1 := r1.cell
  have zf1 := r1.froz
  have hB1 : Below w.heap.size w w1 := below_of_grown (((Below.refl _ _).alloc (Nat.le_refl _) _).alloc (by simp) _) g1 (by simp; omega) (fun k e => by cases e; omega)
  clear r1 g1 k1
  go_wp2_with fail
  refine bodyPost_ret (v := .agg #[.int .i64 p, .int .i64 q, .int .i64 r]) (by go_light; simp [results, Try.results86, go_sem, *]) rfl ⟨⟨(p, q, r), rfl⟩, ?_⟩
  repeat (first | with_reducible exact Below.refl _ _ | with_reducible assumption | ((with_reducible refine blA ?_ ?_); (focus (first | omega | (simp <;> omega)))) | (with_reducible refine blD ?_) | (with_reducible refine blN ?_) | ((with_reducible refine blS ?_ ?_); (focus (first | omega | (simp <;> omega)))) | ((with_reducible refine blT (by assumption) ?_ ?_); (focus (first | omega | (simp <;> omega)))))
theorem drawReduce_any (a : Option Addr) (len cap : Nat) (w : World) (hc : CodeOk w.heap.size w a len) (hl : len ≤ 140737488355328) :
    Calls Try.prog 26 #[.slice a len cap] w fun e w' => (∃ x : Fm, e = .returned (.agg #[.int .i64 x.1, .int .i64 x.2.1, .int .i64 x.2.2])) ∧ Below w.heap.size w w' := by
  go_enter Try.func26, Try.ntmps26
  go_wp2_with fail
  refine (drawIsIndefinite_any a len cap _ (hc.up (by simp) ((Below.refl _ _).alloc (Nat.le_refl _) _)) hl).mono ?_
  rintro e1 w1 ⟨⟨⟨p, q, r⟩, rfl⟩, hB1⟩
  obtain ⟨hC1, hF1⟩ := bcell hB1
  have hS1 := hB1.size
  simp at hS1
  go_wp2_with fail
  refine bodyPost_ret (v := .agg #[.int .i64 p, .int .i64 q, .int .i64 r]) (by go_light; simp [results, Try.results26, go_sem, *]) rfl ⟨⟨(p, q, r), rfl⟩, ?_⟩
  repeat (first | with_reducible exact Below.refl _ _ | with_reducible assumption | ((with_reducible refine blA ?_ ?_); (focus (first | omega | (simp <;> omega)))) | (with_reducible refine blD ?_) | (with_reducible refine blN ?_) | ((with_reducible refine blS ?_ ?_); (focus (first | omega | (simp <;> omega)))) | ((with_reducible refine blT (by assumption) ?_ ?_); (focus (first | omega | (simp <;> omega)))))
set_option maxRecDepth 100000 in
set_option maxHeartbeats 8000000 in
theorem drawSameCycle_any (a : Option Addr) (len cap : Nat) (w : World) (hc : CodeOk w.heap.size w a len) (hl : len ≤ 140737488355328) :
    Calls Try.prog 65 #[.slice a len cap] w fun e w' => (∃ x y : Fm, e = .returned (.tuple #[.agg #[.int .i64 x.1, .int .i64 x.2.1, .int .i64 x.2.2], .agg #[.int .i64 y.1, .int .i64 y.2.1, .int .i64 y.2.2]])) ∧ Below w.heap.size w w' := by
  go_enter Try.func65, Try.ntmps65
  go_wp2_with fail
  obtain ⟨w0, e0, k0, r0, q0, s0, z0⟩ : ∃ w0, ((w.alloc (.cells #[.int .i64 0, .int .i64 0, .int .i64 0] 36)).alloc (.cells #[.int .i64 0, .int .i64 0, .int .i64 0] 36)).alloc (.cells #[.slice a len cap, .int .i64 0, .int .u64 0] 67) = w0 ∧ Cur 0 (w.heap.size + 1 + 1) w0 ∧ Blk w.heap.size 36 #[.int .i64 0, .int .i64 0, .int .i64 0] w0 ∧ Blk (w.heap.size + 1) 36 #[.int .i64 0, .int .i64 0, .int .i64 0] w0 ∧ w.grownBy w0 none ∧ w0.heap.size = w.heap.size + 1 + 1 + 1 := by
    refine ⟨_, rfl, ?_, ((Blk.new w _ _).alloc _).alloc _, ?_, gA (gA (gA (grown_id _ _))), by simp⟩
    · have h := Cur.made (w := (w.alloc (.cells #[.int .i64 0, .int .i64 0, .int .i64 0] 36)).alloc (.cells #[.int .i64 0, .int .i64 0, .int .i64 0] 36)) (cap := cap) (t := 67) (hc.up (by simp; omega) (((Below.refl _ _).alloc (Nat.le_refl _) _).alloc (by simp) _)) hl
      simpa using h
    · have h := (Blk.new (w.alloc (.cells #[.int .i64 0, .int .i64 0, .int .i64 0] 36)) 36 #[.int .i64 0, .int .i64 0, .int .i64 0]).alloc (.cells #[.slice a len cap, .int .i64 0, .int .u64 0] 67)
      simpa using h
  have nr : some w.heap.size ≠ some (w.heap.size + 1 + 1) := fun e => by have := Option.some.inj e; omega
  have nq : some (w.heap.size + 1) ≠ some (w.heap.size + 1 + 1) := fun e => by have := Option.some.inj e; omega
  try rw [e0]
  refine (indefinite_any _ (w.heap.size + 1 + 1) _ k0 (by omega)).mono ?_
  rintro e1 w1 ⟨⟨⟨a2, b2, c2⟩, rfl, -, -⟩, k1, g1⟩
  have r1 := r0.grown g1 nr
  have q1 := q0.grown g1 nq
  have s1 := gO (by omega) g1 s0
  have z1 := g1.size
  have rl1 := r1.lt
  have ql1 := q1.lt
  have kl1 := k1.lt
  clear r0 q0 k0 s0 g1 e0
  obtain ⟨bf, hbf⟩ : ∃ bf, w1.heap.size = bf := ⟨_, rfl⟩
  obtain ⟨w3, e3, f3, r3, q3, k3, s3⟩ : ∃ w3, w1.alloc (.cells #[.int .i64 a2, .int .i64 b2, .int .i64 c2] 36) = w3 ∧ Blk bf 36 #[.int .i64 a2, .int .i64 b2, .int .i64 c2] w3 ∧ Blk w.heap.size 36 #[.int .i64 0, .int .i64 0, .int .i64 0] w3 ∧ Blk (w.heap.size + 1) 36 #[.int .i64 0, .int .i64 0, .int .i64 0] w3 ∧ Cur _ (w.heap.size + 1 + 1) w3 ∧ w.grownBy w3 none :=
    ⟨_, rfl, by rw [← hbf]; exact Blk.new _ _ _, r1.alloc _, q1.alloc _, kA k1, gA s1⟩
  rw [hbf] at z1 rl1 ql1 kl1
  have nf : some bf ≠ some (w.heap.size + 1 + 1) := fun e => by cases e; omega
  have nb1 : ¬ w.heap.size = bf := by omega
  have nb2 : ¬ bf = w.heap.size := by omega
  have nb3 : ¬ w.heap.size + 1 = bf := by omega
  have nb4 : ¬ bf = w.heap.size + 1 := by omega
  have ho1 : w.heap.size ≤ w.heap.size + 1 + 1 := by omega
  clear r1 q1 k1 s1 z0 z1
  have hcf := f3.cell
  have hlf := f3.lt
  go_wp2_with fail
  try rw [e3]
  clear e3 hbf
  refine (cyGood_any a2 b2 c2 _).mono ?_
  rintro e4 xf10 ⟨rfl, hB4⟩
  have f10 := f3.below hB4
  have r10 := r3.below hB4
  have q10 := q3.below hB4
  have k10 := kB hB4 k3
  have s10 := gB hB4 s3
  clear f3 r3 q3 k3 s3 hB4 hcf hlf
  have hcf := f10.cell
  have hlf := f10.lt
  cases hi : indB a2 b2 c2 with
  | false =>
    go_wp2_with fail
    refine (cyGood_any a2 b2 c2 _).mono ?_
    rintro e4 xf11 ⟨rfl, hB4⟩
    have f11 := f10.below hB4
    have r11 := r10.below hB4
    have q11 := q10.below hB4
    have k11 := kB hB4 k10
    have s11 := gB hB4 s10
    clear f10 r10 q10 k10 s10 hB4 hcf hlf
    have hcf := f11.cell
    have hlf := f11.lt
    rw [hi]
    go_wp2_with fail
    refine region_mixG (w.heap.size+1+1) 3 [0, 1] [(false, 2)] (by kernel_rfl) (by kernel_rfl) (by kernel_rfl) ?_
    apply Exists.intro
    refine ⟨fun w0 g0 => ?_, ?_⟩
    · have f0 := f11.grown g0 nf; have l0 := f0.lt; have v0 := f0.cell
      simp only [List.filterMap_cons, List.filterMap_nil, List.getElem?_cons_zero, List.getElem?_cons_succ]
      show wpQuiet _ _ _ _ [_, _] _
      repeat (first | go_big_quiet_skip | (go_big_quiet_want; go_big_quiet_op; first | go_big_quiet_on | (apply Exists.intro; refine ⟨fun _ => ?_, ?_⟩; (focus (fail)); go_big_quiet_on)))
      refine wpQuiet_nil ?_
      rfl
    intro W hW hWz
    simp only [List.filterMap_cons, List.filterMap_nil, List.getElem?_cons_zero, List.getElem?_cons_succ, Option.map_some, List.drop_succ_cons, List.drop_zero]
    show effWG _ _ _ _ [(false, _)] _ _
    refine effG_of fun wa hBa => ?_
    go_wp2_with fail
    refine (indefinite_any _ (w.heap.size + 1 + 1) _ (kB hBa (kB hW k11)) (by omega)).mono ?_
    rintro e7 w7 ⟨⟨⟨a7, b7, c7⟩, rfl, -, -⟩, k7, g7⟩
    go_wp2
    refine effR_of rfl g7 ?_
    intro w8 hV
    have hB8 := past_below hV
    have r8 := (((r11.below hW).below hBa).grown g7 nr).below hB8
    have q8 := (((q11.below hW).below hBa).grown g7 nq).below hB8
    have s8 : w.grownBy w8 none := gB hB8 (gO ho1 g7 (gB hBa (gB hW s11)))
    clear hV hB8 g7 k7 hBa hW  f11 k11 r11 q11 s11 hcf hlf
    obtain ⟨y1, ey1, ry1, zy1, gy1⟩ := r8.set3 (.int .i64 a2) (.int .i64 b2) (.int .i64 c2)
    have qy1 := q8.grown gy1 (by simp)
    have sy1 := gO (Nat.le_refl _) gy1 s8
    obtain ⟨y2, ey2, qy2, zy2, gy2⟩ := qy1.set3 (.int .i64 a7) (.int .i64 b7) (.int .i64 c7)
    have ry2 := ry1.grown gy2 (by simp)
    have sy2 := gO (by omega) gy2 sy1
    have m0 := r8.cell
    have m1 := r8.froz
    have n0 := qy1.cell
    have n1 := qy1.froz
    have u0 := qy2.cell
    have v0 := ry2.cell
    clear gy1 gy2 s8 sy1 r8 q8 ry1 qy1 ry2 qy2 zy1 zy2
    go_wp2_with fail
    refine bodyPost_ret (v := .tuple #[.agg #[.int .i64 a2, .int .i64 b2, .int .i64 c2], .agg #[.int .i64 a7, .int .i64 b7, .int .i64 c7]]) (by go_light; simp [results, Try.results65, go_sem, *]) rfl ⟨⟨(a2, b2, c2), (a7, b7, c7), rfl⟩, ?_⟩
    exact below_of_none sy2
  | true =>
    go_wp2_with fail
    refine (one_any _ (w.heap.size + 1 + 1) _ _ k10 (by omega) (by omega)).mono ?_
    rintro e5 xf12 ⟨⟨x5, rfl, -, -⟩, k12, g5⟩
    have f12 := f10.grown g5 nf
    have r12 := r10.grown g5 nr
    have q12 := q10.grown g5 nq
    have s12 := gO ho1 g5 s10
    clear f10 r10 q10 k10 s10 g5 hcf hlf
    have hcf := f12.cell
    have hlf := f12.lt
    cases x5 with
    | false =>
      go_wp2_with fail
      refine region_mixG (w.heap.size+1+1) 4 [0, 1, 2] [(false, 3)] (by kernel_rfl) (by kernel_rfl) (by kernel_rfl) ?_
      apply Exists.intro
      refine ⟨fun w0 g0 => ?_, ?_⟩
      · have f0 := f12.grown g0 nf; have l0 := f0.lt; have v0 := f0.cell
        simp only [List.filterMap_cons, List.filterMap_nil, List.getElem?_cons_zero, List.getElem?_cons_succ]
        show wpQuiet _ _ _ _ [_, _, _] _
        repeat (first | go_big_quiet_skip | (go_big_quiet_want; go_big_quiet_op; first | go_big_quiet_on | (apply Exists.intro; refine ⟨fun _ => ?_, ?_⟩; (focus (fail)); go_big_quiet_on)))
        refine wpQuiet_nil ?_
        rfl
      intro W hW hWz
      simp only [List.filterMap_cons, List.filterMap_nil, List.getElem?_cons_zero, List.getElem?_cons_succ, Option.map_some, List.drop_succ_cons, List.drop_zero]
      show effWG _ _ _ _ [(false, _)] _ _
      refine effG_of fun wa hBa => ?_
      go_wp2_with fail
      refine (movedI_any _ (w.heap.size + 1 + 1) a2 b2 c2 _ (kB hBa (kB hW k12)) (by omega)).mono ?_
      rintro e7 w7 ⟨⟨⟨a7, b7, c7⟩, rfl, -, -⟩, k7, g7⟩
      go_wp2
      refine effR_of rfl g7 ?_
      intro w8 hV
      have hB8 := past_below hV
      have r8 := (((r12.below hW).below hBa).grown g7 nr).below hB8
      have q8 := (((q12.below hW).below hBa).grown g7 nq).below hB8
      have s8 : w.grownBy w8 none := gB hB8 (gO ho1 g7 (gB hBa (gB hW s12)))
      clear hV hB8 g7 k7 hBa hW  f12 k12 r12 q12 s12 hcf hlf
      obtain ⟨y1, ey1, ry1, zy1, gy1⟩ := r8.set3 (.int .i64 a2) (.int .i64 b2) (.int .i64 c2)
      have qy1 := q8.grown gy1 (by simp)
      have sy1 := gO (Nat.le_refl _) gy1 s8
      obtain ⟨y2, ey2, qy2, zy2, gy2⟩ := qy1.set3 (.int .i64 a7) (.int .i64 b7) (.int .i64 c7)
      have ry2 := ry1.grown gy2 (by simp)
      have sy2 := gO (by omega) gy2 sy1
      have m0 := r8.cell
      have m1 := r8.froz
      have n0 := qy1.cell
      have n1 := qy1.froz
      have u0 := qy2.cell
      have v0 := ry2.cell
      clear gy1 gy2 s8 sy1 r8 q8 ry1 qy1 ry2 qy2 zy1 zy2
      go_wp2_with fail
      refine bodyPost_ret (v := .tuple #[.agg #[.int .i64 a2, .int .i64 b2, .int .i64 c2], .agg #[.int .i64 a7, .int .i64 b7, .int .i64 c7]]) (by go_light; simp [results, Try.results65, go_sem, *]) rfl ⟨⟨(a2, b2, c2), (a7, b7, c7), rfl⟩, ?_⟩
      exact below_of_none sy2
    | true =>
      go_wp2_with fail
      refine (cyGood_any a2 b2 c2 _).mono ?_
      rintro e4 xf13 ⟨rfl, hB4⟩
      have f13 := f12.below hB4
      have r13 := r12.below hB4
      have q13 := q12.below hB4
      have k13 := kB hB4 k12
      have s13 := gB hB4 s12
      clear f12 r12 q12 k12 s12 hB4 hcf hlf
      have hcf := f13.cell
      have hlf := f13.lt
      rw [hi]
      go_wp2_with fail
      refine (one_any _ (w.heap.size + 1 + 1) _ _ k13 (by omega) (by omega)).mono ?_
      rintro e5 xf14 ⟨⟨x5, rfl, -, -⟩, k14, g5⟩
      have f14 := f13.grown g5 nf
      have r14 := r13.grown g5 nr
      have q14 := q13.grown g5 nq
      have s14 := gO ho1 g5 s13
      clear f13 r13 q13 k13 s13 g5 hcf hlf
      have hcf := f14.cell
      have hlf := f14.lt
      have hpos : posB (discW a2 b2 c2) = true := by have h := hi; simp only [indB, Bool.and_eq_true] at h; exact h.2
      cases x5 with
      | false =>
        go_wp2_with fail
        refine region_mixG (w.heap.size+1+1) 7 [0, 1, 2, 3, 4] [(false, 5), (false, 6)] (by kernel_rfl) (by kernel_rfl) (by kernel_rfl) ?_
        apply Exists.intro
        refine ⟨fun w0 g0 => ?_, ?_⟩
        · have f0 := f14.grown g0 nf; have l0 := f0.lt; have v0 := f0.cell
          simp only [List.filterMap_cons, List.filterMap_nil, List.getElem?_cons_zero, List.getElem?_cons_succ]
          show wpQuiet _ _ _ _ [_, _, _, _, _] _
          repeat (first | go_big_quiet_skip | (go_big_quiet_want; go_big_quiet_op; first | go_big_quiet_on | (apply Exists.intro; refine ⟨fun _ => ?_, ?_⟩; (focus ((go_at_call 74; exact past_of (foDisc_any _ _ _ _)))); go_big_quiet_on)))
          refine wpQuiet_nil ?_
          rfl
        intro W hW hWz
        simp only [List.filterMap_cons, List.filterMap_nil, List.getElem?_cons_zero, List.getElem?_cons_succ, Option.map_some, List.drop_succ_cons, List.drop_zero]
        show effWG _ _ _ _ [(false, _), (false, _)] _ _
        refine effG_of fun wa hBa => ?_
        go_wp2_with fail
        refine (cyclic_any _ (w.heap.size + 1 + 1) (discW a2 b2 c2) _ (kB hBa (kB hW k14)) (by omega) hpos).mono ?_
        rintro e7 w7 ⟨⟨⟨a7, b7, c7⟩, rfl, -, -⟩, k7, g7⟩
        go_wp2
        refine effR_of rfl g7 ?_
        refine effG_of fun wc1 hBc1 => ?_
        go_wp2_with fail
        refine (movedI_any _ (w.heap.size + 1 + 1) a7 b7 c7 _ (kB hBc1 k7) (by omega)).mono ?_
        rintro e8 w8 ⟨⟨⟨a8, b8, c8⟩, rfl, -, -⟩, k8, g8⟩
        go_wp2
        refine effR_of rfl g8 ?_
        intro w9 hV
        have hB9 := past_below hV
        have r9 := (((((r14.below hW).below hBa).grown g7 nr).below hBc1).grown g8 nr).below hB9
        have q9 := (((((q14.below hW).below hBa).grown g7 nq).below hBc1).grown g8 nq).below hB9
        have s9 : w.grownBy w9 none := gB hB9 (gO ho1 g8 (gB hBc1 (gO ho1 g7 (gB hBa (gB hW s14)))))
        clear hV hB9 g7 k7 g8 k8 hBa hW hBc1 f14 k14 r14 q14 s14 hcf hlf
        obtain ⟨y1, ey1, ry1, zy1, gy1⟩ := r9.set3 (.int .i64 a2) (.int .i64 b2) (.int .i64 c2)
        have qy1 := q9.grown gy1 (by simp)
        have sy1 := gO (Nat.le_refl _) gy1 s9
        obtain ⟨y2, ey2, qy2, zy2, gy2⟩ := qy1.set3 (.int .i64 a8) (.int .i64 b8) (.int .i64 c8)
        have ry2 := ry1.grown gy2 (by simp)
        have sy2 := gO (by omega) gy2 sy1
        have m0 := r9.cell
        have m1 := r9.froz
        have n0 := qy1.cell
        have n1 := qy1.froz
        have u0 := qy2.cell
        have v0 := ry2.cell
        clear gy1 gy2 s9 sy1 r9 q9 ry1 qy1 ry2 qy2 zy1 zy2
        go_wp2_with fail
        refine bodyPost_ret (v := .tuple #[.agg #[.int .i64 a2, .int .i64 b2, .int .i64 c2], .agg #[.int .i64 a8, .int .i64 b8, .int .i64 c8]]) (by go_light; simp [results, Try.results65, go_sem, *]) rfl ⟨⟨(a2, b2, c2), (a8, b8, c8), rfl⟩, ?_⟩
        exact below_of_none sy2
      | true =>
        go_wp2_with fail
        refine region_mixG (w.heap.size+1+1) 3 [0, 1] [(false, 2)] (by kernel_rfl) (by kernel_rfl) (by kernel_rfl) ?_
        apply Exists.intro
        refine ⟨fun w0 g0 => ?_, ?_⟩
        · have f0 := f14.grown g0 nf; have l0 := f0.lt; have v0 := f0.cell
          simp only [List.filterMap_cons, List.filterMap_nil, List.getElem?_cons_zero, List.getElem?_cons_succ]
          show wpQuiet _ _ _ _ [_, _] _
          repeat (first | go_big_quiet_skip | (go_big_quiet_want; go_big_quiet_op; first | go_big_quiet_on | (apply Exists.intro; refine ⟨fun _ => ?_, ?_⟩; (focus (fail)); go_big_quiet_on)))
          refine wpQuiet_nil ?_
          rfl
        intro W hW hWz
        simp only [List.filterMap_cons, List.filterMap_nil, List.getElem?_cons_zero, List.getElem?_cons_succ, Option.map_some, List.drop_succ_cons, List.drop_zero]
        show effWG _ _ _ _ [(false, _)] _ _
        refine effG_of fun wa hBa => ?_
        go_wp2_with fail
        refine (indefinite_any _ (w.heap.size + 1 + 1) _ (kB hBa (kB hW k14)) (by omega)).mono ?_
        rintro e7 w7 ⟨⟨⟨a7, b7, c7⟩, rfl, -, -⟩, k7, g7⟩
        go_wp2
        refine effR_of rfl g7 ?_
        intro w8 hV
        have hB8 := past_below hV
        have r8 := (((r14.below hW).below hBa).grown g7 nr).below hB8
        have q8 := (((q14.below hW).below hBa).grown g7 nq).below hB8
        have s8 : w.grownBy w8 none := gB hB8 (gO ho1 g7 (gB hBa (gB hW s14)))
        clear hV hB8 g7 k7 hBa hW  f14 k14 r14 q14 s14 hcf hlf
        obtain ⟨y1, ey1, ry1, zy1, gy1⟩ := r8.set3 (.int .i64 a2) (.int .i64 b2) (.int .i64 c2)
        have qy1 := q8.grown gy1 (by simp)
        have sy1 := gO (Nat.le_refl _) gy1 s8
        obtain ⟨y2, ey2, qy2, zy2, gy2⟩ := qy1.set3 (.int .i64 a7) (.int .i64 b7) (.int .i64 c7)
        have ry2 := ry1.grown gy2 (by simp)
        have sy2 := gO (by omega) gy2 sy1
        have m0 := r8.cell
        have m1 := r8.froz
        have n0 := qy1.cell
        have n1 := qy1.froz
        have u0 := qy2.cell
        have v0 := ry2.cell
        clear gy1 gy2 s8 sy1 r8 q8 ry1 qy1 ry2 qy2 zy1 zy2
        go_wp2_with fail
        refine bodyPost_ret (v := .tuple #[.agg #[.int .i64 a2, .int .i64 b2, .int .i64 c2], .agg #[.int .i64 a7, .int .i64 b7, .int .i64 c7]]) (by go_light; simp [results, Try.results65, go_sem, *]) rfl ⟨⟨(a2, b2, c2), (a7, b7, c7), rfl⟩, ?_⟩
        exact below_of_none sy2
theorem drawCycleMatrix_any (a : Option Addr) (len cap : Nat) (w : World) (hc : CodeOk w.heap.size w a len) (hl : len ≤ 140737488355328) :
    Calls Try.prog 19 #[.slice a len cap] w fun e w' => (∃ x y : Fm, e = .returned (.tuple #[.agg #[.int .i64 x.1, .int .i64 x.2.1, .int .i64 x.2.2], .agg #[.int .i64 y.1, .int .i64 y.2.1, .int .i64 y.2.2]])) ∧ Below w.heap.size w w' := by
  go_enter Try.func19, Try.ntmps19
  go_wp2_with fail
  refine (drawSameCycle_any a len cap _ (hc.up (by simp; omega) (((Below.refl _ _).alloc (Nat.le_refl _) _).alloc (by simp) _)) hl).mono ?_
  rintro e1 w1 ⟨⟨⟨p, q, r⟩, ⟨p', q', r'⟩, rfl⟩, hB1⟩
  obtain ⟨hC1, hF1⟩ := bcell hB1
  have hS1 := hB1.size
  simp at hS1
  have l1 : w.heap.size < w1.heap.size := by omega
  have l2 : w.heap.size + 1 < w1.heap.size := by omega
  have r1 := ((Blk.new w 36 #[.int .i64 0, .int .i64 0, .int .i64 0]).alloc (.cells #[.int .i64 0, .int .i64 0, .int .i64 0] 36)).below hB1
  have q1 := (Blk.new (w.alloc (.cells #[.int .i64 0, .int .i64 0, .int .i64 0] 36)) 36 #[.int .i64 0, .int .i64 0, .int .i64 0]).below hB1
  have r1c := r1.cell
  have r1f := r1.froz
  have q1c : ∀ o, w1.cell? ⟨w.heap.size + 1, o, none⟩ = (#[.int .i64 0, .int .i64 0, .int .i64 0] : Array Value)[o]? := by simpa using q1.cell
  have q1f : ∀ o, w1.frozen? ⟨w.heap.size + 1, o, none⟩ = false := by simpa using q1.froz
  clear r1 q1 hC1 hF1
  go_wp2_with fail
  refine bodyPost_ret (v := .tuple #[.agg #[.int .i64 p, .int .i64 q, .int .i64 r], .agg #[.int .i64 p', .int .i64 q', .int .i64 r']]) (by go_light; simp [results, Try.results19, go_sem, *]) rfl ⟨⟨(p, q, r), (p', q', r'), rfl⟩, ?_⟩
  repeat (first | with_reducible exact Below.refl _ _ | with_reducible assumption | ((with_reducible refine blA ?_ ?_); (focus (first | omega | (simp <;> omega)))) | (with_reducible refine blD ?_) | (with_reducible refine blN ?_) | ((with_reducible refine blS ?_ ?_); (focus (first | omega | (simp <;> omega)))) | ((with_reducible refine blT (by assumption) ?_ ?_); (focus (first | omega | (simp <;> omega)))))
end Go.Proofs.Ytemnkfigjpphgaa

/-
  The draws of FnUnits.
-/
namespace Go.Proofs.Ytemnkfigjpphgaa
open Go.RowKit
attribute [local simp, local go_sem] past_cell past_frozen past_tape
/-- The result's block and the cursor. -/
structure UD (w wr : World) (m : Nat) : Prop where
  r : Blk w.heap.size 36 #[.int .i64 0, .int .i64 0, .int .i64 0] wr
  c : Cur m (w.heap.size + 1) wr
  s : w.grownBy wr none
theorem UD.draw {w wr w' : World} {m m' : Nat} (h : UD w wr m) (k : Cur m' (w.heap.size + 1) w') (g1 : wr.grownBy w' (some (w.heap.size + 1))) : UD w w' m' :=
  ⟨h.r.grown g1 (by simp), k, gO (by omega) g1 h.s⟩
theorem UD.alloc {w wr : World} {m : Nat} (h : UD w wr m) (o : Obj) : UD w (wr.alloc o) m := ⟨h.r.alloc o, kA h.c, gA h.s⟩
theorem UD.made (a : Option Addr) (len cap : Nat) (w : World) (hc : CodeOk w.heap.size w a len) (hl : len ≤ 140737488355328) : UD w ((w.alloc (.cells #[.int .i64 0, .int .i64 0, .int .i64 0] 36)).alloc (.cells #[.slice a len cap, .int .i64 0, .int .u64 0] 67)) 0 := by
  refine ⟨(Blk.new w _ _).alloc _, ?_, gA (gA (grown_id _ _))⟩
  have h := Cur.made (w := w.alloc (.cells #[.int .i64 0, .int .i64 0, .int .i64 0] 36)) (cap := cap) (t := 67) (hc.up (by simp) ((Below.refl _ _).alloc (Nat.le_refl _) _)) hl
  simpa using h
set_option maxRecDepth 100000 in
set_option maxHeartbeats 8000000 in
theorem drawCycleProduct_any (a : Option Addr) (len cap : Nat) (w : World) (hc : CodeOk w.heap.size w a len) (hl : len ≤ 140737488355328) :
    Calls Try.prog 32 #[.slice a len cap] w fun e w' => (∃ x : Fm, e = .returned (.agg #[.int .i64 x.1, .int .i64 x.2.1, .int .i64 x.2.2])) ∧ Below w.heap.size w w' := by
  have H0 := Lib.hid (UD.made a len cap w hc hl)
  clear hc hl
  go_enter Try.func32, Try.ntmps32
  go_wp2_with fail
  refine (one_any _ (w.heap.size + 1) _ _ H0.out.c (by omega) (by omega)).mono ?_
  rintro e1 w1 ⟨⟨x1, rfl, -, -⟩, k1, g1⟩
  have h1 := Lib.hid (H0.out.draw k1 g1)
  clear k1 g1 H0
  cases x1 with
  | true =>
    go_wp2_with fail
    refine (indefinite_any _ (w.heap.size + 1) _ h1.out.c (by omega)).mono ?_
    rintro e2 w2 ⟨⟨⟨p, q, r⟩, rfl, -, -⟩, k2, g2⟩
    have h2 := Lib.hid (h1.out.draw k2 g2)
    have c2 := h2.out.r.cell
    have f2 := h2.out.r.froz
    have l2 := h2.out.r.lt
    have hB := Lib.hid (below_of_none h2.out.s)
    clear k2 g2 h1 h2
    go_wp2_with fail
    refine bodyPost_ret (v := .agg #[.int .i64 p, .int .i64 q, .int .i64 r]) (by go_light; simp [results, Try.results32, go_sem, *]) rfl ⟨⟨(p, q, r), rfl⟩, ?_⟩
    have hq := hB.out
    repeat (first | with_reducible exact Below.refl _ _ | with_reducible assumption | ((with_reducible refine blA ?_ ?_); (focus (first | omega | (simp <;> omega)))) | (with_reducible refine blD ?_) | (with_reducible refine blN ?_) | ((with_reducible refine blS ?_ ?_); (focus (first | omega | (simp <;> omega)))) | ((with_reducible refine blT (by assumption) ?_ ?_); (focus (first | omega | (simp <;> omega)))))
  | false =>
    go_wp2_with fail
    refine (goodPositive_any _ (w.heap.size + 1) _ h1.out.c (by omega)).mono ?_
    rintro e2 w2 ⟨⟨d, rfl, hd, -⟩, k2, g2⟩
    have h2 := Lib.hid (h1.out.draw k2 g2)
    clear k2 g2 h1
    go_wp2_with fail
    refine (cyclic_any _ (w.heap.size + 1) d _ h2.out.c (by omega) hd).mono ?_
    rintro e3 w3 ⟨⟨⟨p, q, r⟩, rfl, -, -⟩, k3, g3⟩
    have h3 := Lib.hid (h2.out.draw k3 g3)
    have c2 := h3.out.r.cell
    have f2 := h3.out.r.froz
    have l2 := h3.out.r.lt
    have hB := Lib.hid (below_of_none h3.out.s)
    clear k3 g3 h2 h3 hd
    go_wp2_with fail
    refine bodyPost_ret (v := .agg #[.int .i64 p, .int .i64 q, .int .i64 r]) (by go_light; simp [results, Try.results32, go_sem, *]) rfl ⟨⟨(p, q, r), rfl⟩, ?_⟩
    have hq := hB.out
    repeat (first | with_reducible exact Below.refl _ _ | with_reducible assumption | ((with_reducible refine blA ?_ ?_); (focus (first | omega | (simp <;> omega)))) | (with_reducible refine blD ?_) | (with_reducible refine blN ?_) | ((with_reducible refine blS ?_ ?_); (focus (first | omega | (simp <;> omega)))) | ((with_reducible refine blT (by assumption) ?_ ?_); (focus (first | omega | (simp <;> omega)))))
set_option maxRecDepth 100000 in
set_option maxHeartbeats 8000000 in
theorem drawIndefiniteAutomorph_any (a : Option Addr) (len cap : Nat) (w : World) (hc : CodeOk w.heap.size w a len) (hl : len ≤ 140737488355328) :
    Calls Try.prog 39 #[.slice a len cap] w fun e w' => (∃ (x : Fm) (k : Int), e = .returned (.tuple #[.agg #[.int .i64 x.1, .int .i64 x.2.1, .int .i64 x.2.2], .int .i64 k])) ∧ Below w.heap.size w w' := by
  have H0 := Lib.hid (UD.made a len cap w hc hl)
  clear hc hl
  go_enter Try.func39, Try.ntmps39
  go_wp2_with fail
  refine (indefinite_any _ (w.heap.size + 1) _ H0.out.c (by omega)).mono ?_
  rintro e1 w1 ⟨⟨⟨p, q, r⟩, rfl, -, -⟩, k1, g1⟩
  have h1 := Lib.hid (H0.out.draw k1 g1)
  clear k1 g1 H0
  go_wp2_with fail
  refine (pick_any _ (w.heap.size + 1) _ _ h1.out.c (by omega) (by omega)).mono ?_
  rintro e2 w2 ⟨⟨x2, rfl, p2, q2⟩, k2, g2⟩
  have h2 := Lib.hid (h1.out.draw k2 g2)
  have hw2 : wrap64 (x2 - 5) = x2 - 5 := by unfold wrap64; omega
  clear k2 g2 h1
  go_wp2_with fail
  refine (among_any _ (w.heap.size + 1) w2.heap.size 11 11 I64 _ (h2.out.alloc _).c (by omega) (by omega) (lst_new _ _ _ _ _ rfl ?_) (by have := h2.out.c.lt; omega)).mono ?_
  · simp [I64]; omega
  rintro e3 w3 ⟨⟨x3, rfl, p3, -⟩, k3, g3⟩
  have h3 := Lib.hid ((h2.out.alloc _).draw k3 g3)
  have c2 := h3.out.r.cell
  have f2 := h3.out.r.froz
  have l2 := h3.out.r.lt
  have hB := Lib.hid (below_of_none h3.out.s)
  clear k3 g3 h2 h3 hw2
  go_wp2_with fail
  refine bodyPost_ret (v := .tuple #[.agg #[.int .i64 p, .int .i64 q, .int .i64 r], .int .i64 x3]) (by go_light; simp [results, Try.results39, go_sem, *]) rfl ⟨⟨(p, q, r), x3, rfl⟩, ?_⟩
  have hq := hB.out
  repeat (first | with_reducible exact Below.refl _ _ | with_reducible assumption | ((with_reducible refine blA ?_ ?_); (focus (first | omega | (simp <;> omega)))) | (with_reducible refine blD ?_) | (with_reducible refine blN ?_) | ((with_reducible refine blS ?_ ?_); (focus (first | omega | (simp <;> omega)))) | ((with_reducible refine blT (by assumption) ?_ ?_); (focus (first | omega | (simp <;> omega)))))
end Go.Proofs.Ytemnkfigjpphgaa

/-
  The program's reduction of an indefinite form, walked.
-/
namespace Go.Proofs.Ytemnkfigjpphgaa
open Go.RowKit
attribute [local simp, local go_sem] past_cell past_frozen past_tape
set_option maxRecDepth 100000 in
set_option maxHeartbeats 8000000 in
theorem toCycle_any (r d a b c : Int) (w : World) (hg : Gd r d (a, b, c)) (hp : posB d = true) :
    Calls Try.prog 88 #[.agg #[.int .i64 a, .int .i64 b, .int .i64 c]] w fun e w' => (∃ (g : Fm) (N : Mt) (ok : Bool), e = .returned (.tuple #[.agg #[.int .i64 g.1, .int .i64 g.2.1, .int .i64 g.2.2], .agg #[.int .i64 N.1, .int .i64 N.2.1, .int .i64 N.2.2.1, .int .i64 N.2.2.2], .bool ok]) ∧ Rd r (a, b, c) mI g N ok) ∧ Below w.heap.size w w' := by
  go_enter Try.func88, Try.ntmps88
  go_wp2_with fail
  refine (one_any' _).mono ?_
  rintro e0 w0 ⟨rfl, hB0⟩
  have hz0 := hB0.size
  simp at hz0
  obtain ⟨wi, ei, hRi⟩ : ∃ wi, w0.alloc (.cells #[.int .i64 1, .int .i64 0, .int .i64 0, .int .i64 1] 40) = wi ∧ RM w wi w0.heap.size (a, b, c) mI := by
    refine ⟨_, rfl, ⟨?_, ?_, ?_, Blk.new _ _ _, ?_, by omega⟩⟩
    · exact ((((Blk.new w 36 #[.int .i64 a, .int .i64 b, .int .i64 c]).alloc _).alloc _).below hB0).alloc _
    · have := ((((Blk.new (w.alloc (.cells #[.int .i64 a, .int .i64 b, .int .i64 c] 36)) 36 #[.int .i64 0, .int .i64 0, .int .i64 0]).alloc _).below hB0).alloc (.cells #[.int .i64 1, .int .i64 0, .int .i64 0, .int .i64 1] 40))
      simpa using this
    · have := (((Blk.new ((w.alloc (.cells #[.int .i64 a, .int .i64 b, .int .i64 c] 36)).alloc (.cells #[.int .i64 0, .int .i64 0, .int .i64 0] 36)) 40 #[.int .i64 0, .int .i64 0, .int .i64 0, .int .i64 0]).below hB0).alloc (.cells #[.int .i64 1, .int .i64 0, .int .i64 0, .int .i64 1] 40))
      simpa using this
    · repeat (first | with_reducible exact Below.refl _ _ | with_reducible assumption | ((with_reducible refine blA ?_ ?_); (focus (first | omega | (simp <;> omega)))) | (with_reducible refine blD ?_) | (with_reducible refine blN ?_) | ((with_reducible refine blS ?_ ?_); (focus (first | omega | (simp <;> omega)))) | ((with_reducible refine blT (by assumption) ?_ ?_); (focus (first | omega | (simp <;> omega)))))
  obtain ⟨bm, hbm⟩ : ∃ bm, w0.heap.size = bm := ⟨_, rfl⟩
  go_wp2_with fail
  try rw [ei]
  try rw [hbm]
  rw [hbm] at hRi
  have HRI := Lib.hid hRi
  have HP := Lib.hid hp
  have HG := Lib.hid hg
  clear hRi hB0 hz0 ei hbm hp hg
  go_loopw [] (fun wr => ∃ (f : Fm) (M : Mt), Hid (RM w wr bm f M) ∧ Hid (Gd r d f) ∧ Hid (mle 1000000 M) ∧ Hid (∀ g N ok, Rd r f M g N ok → Rd r (a, b, c) mI g N ok)) (fun wr => cMs r (intOf ((wr.cell? ⟨w.heap.size, 0, none⟩).getD undef), intOf ((wr.cell? ⟨w.heap.size, 1, none⟩).getD undef), intOf ((wr.cell? ⟨w.heap.size, 2, none⟩).getD undef)))
  case atStart =>
    exact ⟨(a, b, c), mI, HRI, HG, Lib.hid ⟨by decide, by decide, by decide, by decide⟩, Lib.hid fun _ _ _ h => h⟩
  case round =>
    obtain ⟨⟨a1, b1, c1⟩, ⟨p, q, s, t⟩, hR, hG, hM, hD⟩ := hrel
    clear HRI HG
    have HR := hR.out
    have cf := HR.f.cell
    have ff := HR.f.froz
    have cg := HR.g.cell
    have fg := HR.g.froz
    have ch := HR.h.cell
    have fh := HR.h.froz
    have cm := HR.m.cell
    have fm := HR.m.froz
    simp only at cf cm
    cases hred : cyB r (a1, b1, c1) with
    | true =>
      have hcall : Hid (∀ w1, Calls Try.prog 89 #[.agg #[.int .i64 a1, .int .i64 b1, .int .i64 c1]] w1 fun en w' => en = .returned (.bool true) ∧ Below w1.heap.size w1 w') := Lib.hid fun w1 => by rw [← hred]; exact isCyclic_any r d a1 b1 c1 w1 hG.out
      have HF := Lib.hid (hD.out _ _ _ (Rd.stop hred))
      clear hred HR hD
      go_wp2_with fail
      refine (hcall.out _).mono ?_
      rintro e1 w1 ⟨rfl, hB1⟩
      have h1 := hR.out.below hB1
      clear cf ff cg fg ch fh cm fm hB1 hR
      obtain ⟨h1f, h1g, h1h, h1m, h1b, h1n⟩ := h1
      have cf := h1f.cell
      have cg := h1g.cell
      have fg := h1g.froz
      have ch := h1h.cell
      have fh := h1h.froz
      have cm := h1m.cell
      have lf := h1f.lt
      have lg := h1g.lt
      have lh := h1h.lt
      have lm := h1m.lt
      simp only at cf cm
      obtain ⟨w2, e2, k2, z2, g2⟩ := h1g.set3 (.int .i64 a1) (.int .i64 b1) (.int .i64 c1)
      have k2h := h1h.grown g2 (by simp <;> omega)
      have k2m := (h1m.grown g2 (by simp <;> omega)).cell
      obtain ⟨w3, e3, k3, z3, g3⟩ := k2h.set4 (.int .i64 p) (.int .i64 q) (.int .i64 s) (.int .i64 t)
      have k3g := k2.grown g3 (by simp <;> omega)
      have c2h := k2h.cell
      have c3 := k3.cell
      have c3g := k3g.cell
      have f2 := k2h.froz
      simp only at k2m
      have bf : Below w.heap.size w w3 := below_grown (below_grown h1b g2 (by omega) (by omega)) g3 (by omega) (by have := h1b.size; omega)
      go_wp2_with fail
      go_region
      all_goals
        go_wp2_with fail
        refine bodyPost_ret (v := .tuple #[.agg #[.int .i64 a1, .int .i64 b1, .int .i64 c1], .agg #[.int .i64 p, .int .i64 q, .int .i64 s, .int .i64 t], .bool true]) (by go_light; simp [results, Try.results88, go_sem, *]) rfl ⟨⟨(a1, b1, c1), (p, q, s, t), true, rfl, HF.out⟩, ?_⟩
        with_reducible refine blD ?_
        exact bf
    | false =>
      have HCF := Lib.hid cf
      have hcall : Hid (∀ w1, Calls Try.prog 89 #[.agg #[.int .i64 a1, .int .i64 b1, .int .i64 c1]] w1 fun en w' => en = .returned (.bool false) ∧ Below w1.heap.size w1 w') := Lib.hid fun w1 => by rw [← hred]; exact isCyclic_any r d a1 b1 c1 w1 hG.out
      have hnext := Lib.hid fun w1 => implNextForm_any r d a1 b1 c1 w1 hG.out HP.out
      have hml : mle 1000000 (nmg r (a1, b1, c1)) := mB_mle.1 (nmg_mB hG.out)
      have htimes := Lib.hid fun w1 => times_mm (p, q, s, t) (nmg r (a1, b1, c1)) w1 hM.out hml
      have HN := Lib.hid (hG.out.next.1)
      have HMS := Lib.hid (cMs_less hG.out.root hred)
      have HBAD := Lib.hid (fun hb => hD.out _ _ _ (Rd.bad hred hb))
      have HNX := Lib.hid (fun hm g N ok hR => hD.out g N ok (Rd.next hred hm hR))
      clear hD hG hM HR hml
      obtain ⟨⟨G1, G2, G3⟩, hGe⟩ : ∃ G, nbg r (a1, b1, c1) = G := ⟨_, rfl⟩
      obtain ⟨⟨N1, N2, N3, N4⟩, hNe⟩ : ∃ N, nmg r (a1, b1, c1) = N := ⟨_, rfl⟩
      obtain ⟨⟨X1, X2, X3, X4⟩, hXe⟩ : ∃ X, mm (p, q, s, t) (nmg r (a1, b1, c1)) = X := ⟨_, rfl⟩
      rw [hGe] at hnext HN HMS HNX
      rw [hXe] at HBAD HNX htimes
      rw [hNe] at hnext htimes
      simp only at hnext htimes
      clear hGe hNe hXe hred
      go_wp2_with fail
      refine (hcall.out _).mono ?_
      rintro e1 w1 ⟨rfl, hB1⟩
      have h1 := hR.out.below hB1
      clear cf ff cg fg ch fh cm fm hB1 hR
      have cf := h1.f.cell
      simp only at cf
      go_wp2_with fail
      refine (hnext.out _).mono ?_
      rintro e2 w2 ⟨rfl, hB2⟩
      have h2 := h1.below hB2
      clear hB2 h1 cf
      have cm := h2.m.cell
      have lm := h2.m.lt
      have lf := h2.f.lt
      simp only at cm
      go_wp2_with fail
      refine (htimes.out _).mono ?_
      rintro e3 w3 ⟨rfl, hB3⟩
      have h3 := ((h2.alloc _).alloc _).below hB3
      have k3 := ((Blk.new w2 36 #[.int .i64 G1, .int .i64 G2, .int .i64 G3]).alloc _).below hB3
      have z3 := hB3.size
      simp at z3
      clear hB3 h2 cm
      cases hmb : mB X1 X2 X3 X4 with
      | false =>
        have hch := Lib.hid fun w1 => checked_no X1 X2 X3 X4 w1 hmb
        have HF := Lib.hid (HBAD.out (fun h => by have := (mB_mle (M := (X1, X2, X3, X4))).2 h; rw [hmb] at this; cases this))
        clear hmb HBAD HNX
        go_wp2_with fail
        refine (hch.out _).mono ?_
        rintro e4 w4 ⟨rfl, hB4⟩
        have h4 := h3.below hB4
        clear hB4 h3 k3
        have cm := h4.m.cell
        have fm := h4.m.froz
        have cg := h4.g.cell
        have fg := h4.g.froz
        have ch := h4.h.cell
        have fh := h4.h.froz
        have lm' := h4.m.lt
        have lg := h4.g.lt
        have lh := h4.h.lt
        have nb := h4.n
        have hne1 : ¬ bm = w.heap.size + 1 := by omega
        have hne2 : ¬ bm = w.heap.size + 1 + 1 := by omega
        have hne3 : ¬ w.heap.size + 1 = bm := by omega
        have hne4 : ¬ w.heap.size + 1 + 1 = bm := by omega
        have hb4 := h4.b
        simp only at cm
        go_wp2_with fail
        refine bodyPost_ret (v := .tuple #[.agg #[.int .i64 0, .int .i64 0, .int .i64 0], .agg #[.int .i64 0, .int .i64 0, .int .i64 0, .int .i64 0], .bool false]) (by go_light; simp [results, Try.results88, go_sem, *]) rfl ⟨⟨(0, 0, 0), (0, 0, 0, 0), false, rfl, HF.out⟩, ?_⟩
        repeat (first | with_reducible exact Below.refl _ _ | with_reducible assumption | ((with_reducible refine blA ?_ ?_); (focus (first | omega | (simp <;> omega)))) | (with_reducible refine blD ?_) | (with_reducible refine blN ?_) | ((with_reducible refine blS ?_ ?_); (focus (first | omega | (simp <;> omega)))) | ((with_reducible refine blT (by assumption) ?_ ?_); (focus (first | omega | (simp <;> omega)))))
      | true =>
        have hch := Lib.hid fun w1 => checked_yes X1 X2 X3 X4 w1 hmb
        have HF := Lib.hid (HNX.out ((mB_mle (M := (X1, X2, X3, X4))).1 hmb))
        have HML := Lib.hid ((mB_mle (M := (X1, X2, X3, X4))).1 hmb)
        clear hmb HBAD HNX
        go_wp2_with fail
        refine (hch.out _).mono ?_
        rintro e4 w4 ⟨rfl, hB4⟩
        have h4 := h3.below hB4
        have k4 := k3.below hB4
        have z4 := hB4.size
        clear hB4 h3 k3
        have cm := h4.m.cell
        have fm := h4.m.froz
        have lm' := h4.m.lt
        have nb := h4.n
        have cf4 := h4.f.cell
        have ff4 := h4.f.froz
        simp only at cm cf4
        obtain ⟨w5, e5, k5, z5, g5⟩ := h4.m.set4 (.int .i64 X1) (.int .i64 X2) (.int .i64 X3) (.int .i64 X4)
        have f5 := h4.f.grown g5 (by simp <;> omega)
        have kk5 := k4.grown g5 (by simp <;> omega)
        obtain ⟨w6, e6, k6, z6, g6⟩ := f5.set3 (.int .i64 G1) (.int .i64 G2) (.int .i64 G3)
        have hR6 : RM w w6 bm (G1, G2, G3) (X1, X2, X3, X4) :=
          ⟨k6, (h4.g.grown g5 (by simp <;> omega)).grown g6 (by simp <;> omega), (h4.h.grown g5 (by simp <;> omega)).grown g6 (by simp <;> omega), k5.grown g6 (by simp <;> omega), below_grown (below_grown h4.b g5 (by omega) (by have := h4.b.size; omega)) g6 (by omega) (by have := h4.b.size; omega), h4.n⟩
        have c5 := kk5.cell
        have c5f := f5.cell
        have d5f := f5.froz
        have c6f := hR6.f.cell
        have HR6 := Lib.hid hR6
        simp only at c5f c6f
        go_wp2_with fail
        go_roundw
        case rel =>
          go_light
          exact ⟨(G1, G2, G3), (X1, X2, X3, X4), HR6, HN.out, HML.out, HF.out⟩
        case measure =>
          have h0 := HCF.out
          have h1 := HMS.out
          simp [intOf, h0, c6f]
          exact h1
end Go.Proofs.Ytemnkfigjpphgaa
