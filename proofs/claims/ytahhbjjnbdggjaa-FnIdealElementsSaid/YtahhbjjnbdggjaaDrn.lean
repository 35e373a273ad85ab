/-
  The reference's draw of an ideal that is seldom invalid.
-/
import Derived.Test.YtahhbjjnbdggjaaDrl
namespace Go.Proofs.Ytahhbjjnbdggjaa
open Go.RowKit
attribute [local simp, local go_sem] past_cell past_frozen past_tape
theorem Tri.one {b : Nat} {T : TypeId} {x y z : Int} {w : World} (h : Tri b T x y z w) (i : Nat) (v : Int) : w.grownBy (w.setCell ⟨b, i, none⟩ (.int .i64 v)) (some b) := grown_set _ _ _ _
theorem Tri.set0 {b : Nat} {T : TypeId} {x y z : Int} {w : World} (h : Tri b T x y z w) (v : Int) : ∃ w4, w.setCell ⟨b, 0, none⟩ (.int .i64 v) = w4 ∧ Tri b T v y z w4 ∧ w4.heap.size = w.heap.size ∧ w.grownBy w4 (some b) := by
  refine ⟨_, rfl, ?_, by simp, grown_set _ _ _ _⟩
  unfold Tri at h ⊢
  simp [World.setCell, Array.getElem?_modify, h]
theorem Tri.set1 {b : Nat} {T : TypeId} {x y z : Int} {w : World} (h : Tri b T x y z w) (v : Int) : ∃ w4, w.setCell ⟨b, 1, none⟩ (.int .i64 v) = w4 ∧ Tri b T x v z w4 ∧ w4.heap.size = w.heap.size ∧ w.grownBy w4 (some b) := by
  refine ⟨_, rfl, ?_, by simp, grown_set _ _ _ _⟩
  unfold Tri at h ⊢
  simp [World.setCell, Array.getElem?_modify, h]
theorem Tri.set2 {b : Nat} {T : TypeId} {x y z : Int} {w : World} (h : Tri b T x y z w) (v : Int) : ∃ w4, w.setCell ⟨b, 2, none⟩ (.int .i64 v) = w4 ∧ Tri b T x y v w4 ∧ w4.heap.size = w.heap.size ∧ w.grownBy w4 (some b) := by
  refine ⟨_, rfl, ?_, by simp, grown_set _ _ _ _⟩
  unfold Tri at h ⊢
  simp [World.setCell, Array.getElem?_modify, h]
def ITri (x : Int × Int × Int) : Prop := I64 x.1 ∧ I64 x.2.1 ∧ I64 x.2.2
set_option maxRecDepth 100000 in
set_option maxHeartbeats 16000000 in
theorem anyIdeal_any (m g : Nat) (d : Int) (w : World) (h : Cur m g w) (hm : m ≤ 600000) (hd : I64 d) :
    Calls Try.prog 56 #[.pointer (some ⟨g, 0, none⟩), .int .i64 d] w fun e w' => (∃ x : Int × Int × Int, e = .returned (.agg #[.int .i64 x.1, .int .i64 x.2.1, .int .i64 x.2.2]) ∧ ITri x ∧ True) ∧ Cur (m + 300) g w' ∧ w.grownBy w' (some g) := by
  have hlt := h.lt
  have k0 : Cur m g (w.alloc (.cells #[.int .i64 0, .int .i64 0, .int .i64 0] 28)) := kA h
  have r0 : Tri w.heap.size 28 0 0 0 (w.alloc (.cells #[.int .i64 0, .int .i64 0, .int .i64 0] 28)) := Tri.new _ _ _ _ _
  have g0 : w.grownBy (w.alloc (.cells #[.int .i64 0, .int .i64 0, .int .i64 0] 28)) (some g) := gA (grown_id _ _)
  go_enter Try.func56, Try.ntmps56
  go_wp2_with fail
  refine (reDisc_any d _ hd).mono ?_
  rintro e1 w1 ⟨rfl, rfl⟩
  cases hnd : negB d
  · have hm0 := Int.emod_nonneg d (show (2 : Int) ≠ 0 by omega)
    have hm1 := Int.emod_lt_of_pos d (show (0 : Int) < 2 by omega)
    go_wp2_with fail
    refine (nuMod_any d 2 _ hd (by omega) (by omega)).mono ?_
    rintro e2 w2 ⟨rfl, rfl⟩
    obtain ⟨M, hM⟩ : ∃ M, d % 2 = M := ⟨_, rfl⟩
    rw [hM] at hm0 hm1
    have hMi : I64 M := ⟨by omega, by omega⟩
    have hOi : I64 1 := by unfold I64; omega
    simp only [hM]
    go_wp2_with fail
    refine bodyPost_ret (v := .agg #[.int .i64 1, .int .i64 1, .int .i64 M]) (by go_light; simp [results, Try.results56, go_sem, *]) rfl ⟨⟨(1, 1, M), rfl, ⟨hOi, hOi, hMi⟩, trivial⟩, ?_, ?_⟩
    · repeat (first | with_reducible refine kA ?_ | ((with_reducible refine kS ?_ ?_); focus omega))
      exact Cur.mono (by assumption) (by omega)
    · repeat (first | with_reducible assumption | with_reducible exact grown_id _ _ | with_reducible refine gA ?_ | ((with_reducible refine gS ?_ ?_); focus (first | omega | (simp <;> omega))) | with_reducible refine gT (by assumption) ?_)
  have hdd : -2000 ≤ d ∧ d ≤ -3 ∧ d % 4 < 2 := ⟨(negB_true hnd).1, (negB_true hnd).2.1, by have := (negB_true hnd).2.2; omega⟩
  go_wp2_with fail
  refine (ideal_any m g d _ k0 (by omega) hdd).mono ?_
  rintro e1 w1 ⟨⟨⟨a, b, c⟩, rfl, ⟨i0, i1, i2⟩, -⟩, k1, g1⟩
  simp only at i0 i1 i2
  have r1 := r0.grown g1 (by omega)
  have s1 := gT g1 g0
  clear g0 g1 k0 r0 h
  obtain ⟨bx, hbx⟩ : ∃ bx, w1.heap.size = bx := ⟨_, rfl⟩
  obtain ⟨w2, e2, v2, r2, k2, s2⟩ : ∃ w2, w1.alloc (.cells #[.int .i64 a, .int .i64 b, .int .i64 c] 28) = w2 ∧ Tri bx 28 a b c w2 ∧ Tri w.heap.size 28 0 0 0 w2 ∧ Cur (m + 200) g w2 ∧ w.grownBy w2 (some g) :=
    ⟨_, rfl, by rw [← hbx]; exact Tri.new _ _ _ _ _, r1.below (below_alloc _ _), kA k1, gA s1⟩
  have hbw : w.heap.size < bx := by rw [← hbx]; exact r1.lt
  clear r1 k1 s1
  go_wp2_with fail
  try rw [e2]
  refine (pick_any _ g _ _ k2 (by omega) (by omega)).mono ?_
  rintro e3 w3 ⟨⟨x3, rfl, p3, q3⟩, k3, g3⟩
  have v3 := v2.grown g3 (by omega)
  have r3 := r2.grown g3 (by omega)
  have s3 := gT g3 s2
  have vl := v3.lt
  have rl := r3.lt
  have nb1 : ¬ w.heap.size = bx := by omega
  have nb2 : ¬ bx = w.heap.size := by omega
  clear g3 k2 v2 r2 s2 e2
  by_cases c0 : x3 = 0
  · subst c0
    go_wp2_with fail
    refine region_mixG g 12 [0, 1, 2, 3, 4, 5, 6, 7, 8] [(false, 9), (false, 10), (true, 11)] (by kernel_rfl) (by kernel_rfl) (by kernel_rfl) ?_
    apply Exists.intro
    refine ⟨fun w0 g0 => ?_, ?_⟩
    · obtain ⟨hC0, hF0⟩ := gcell g0 hlt
      have hS0 := g0.size
      (try simp at hS0)
      (try have hS0_w : w.heap.size < w0.heap.size := by omega)
      (try have hM0_1 : w.heap.size < w0.heap.size + 1 := by omega)
      (try have hS0_v : w.heap.size + 1 < w0.heap.size := by omega)
      (try have hS0_u : w.heap.size + 1 + 1 < w0.heap.size := by omega)
      (try have hS0_t : w.heap.size + 1 + 1 + 1 < w0.heap.size := by omega)
      have f0 := v3.grown g0 (by omega); have l0 := f0.lt; obtain ⟨v00, v01, v02, -⟩ := f0.at_; clear hC0 hF0
      simp only [List.filterMap_cons, List.filterMap_nil, List.getElem?_cons_zero, List.getElem?_cons_succ]
      show wpQuiet _ _ _ _ [_, _, _, _, _, _, _, _, _] _
      repeat (first | go_big_quiet_skip | (go_big_quiet_want; go_big_quiet_op; first | go_big_quiet_on | (apply Exists.intro; refine ⟨fun _ => ?_, ?_⟩; (focus (fail)); go_big_quiet_on)))
      refine wpQuiet_nil ?_
      rfl
    intro W hW hWz
    simp only [List.filterMap_cons, List.filterMap_nil, List.getElem?_cons_zero, List.getElem?_cons_succ, Option.map_some, List.drop_succ_cons, List.drop_zero]
    show effWG _ _ _ _ [(false, _), (false, _), (true, _)] _ _
    refine effG_of fun wa hBa => ?_
    have ka := kB hBa (kB hW k3)
    have va := (v3.below hW).below hBa
    have ra := (r3.below hW).below hBa
    have sa := gB hBa (gB hW s3)
    go_wp2_with fail
    refine effR_of rfl (gA (grown_id _ _)) ?_
    refine effG_of fun wc hBc => ?_
    have kc := kB hBc (kA (o := .cells #[.int .i64 1, .int .i64 (-1), .int .i64 (wrap64 (2 * b)), .int .i64 (wrap64 (-2 * b))] 3) ka)
    have vc := (va.below (below_alloc _ (.cells #[.int .i64 1, .int .i64 (-1), .int .i64 (wrap64 (2 * b)), .int .i64 (wrap64 (-2 * b))] 3))).below hBc
    have rc := (ra.below (below_alloc _ (.cells #[.int .i64 1, .int .i64 (-1), .int .i64 (wrap64 (2 * b)), .int .i64 (wrap64 (-2 * b))] 3))).below hBc
    have sc := gB hBc (gA (o := .cells #[.int .i64 1, .int .i64 (-1), .int .i64 (wrap64 (2 * b)), .int .i64 (wrap64 (-2 * b))] 3) sa)
    have hL : Lst wa.heap.size 4 I64 (wa.alloc (.cells #[.int .i64 1, .int .i64 (-1), .int .i64 (wrap64 (2 * b)), .int .i64 (wrap64 (-2 * b))] 3)) := by
      refine lst_new _ _ _ _ _ rfl ?_
      have h1 := wrap64_I (2 * b)
      have h2 := wrap64_I (-2 * b)
      simp [h1, h2]
      simp [I64]
    have hLc := hL.keep (grown_of hBc none) (by simp)
    go_wp2_with fail
    refine (among_any _ g wa.heap.size 4 4 I64 _ kc (by omega) (by omega) hLc (by have := ka.lt; omega)).mono ?_
    rintro e5 w5 ⟨⟨x5, rfl, p5, -⟩, k5, g5⟩
    go_wp2
    refine effR_of rfl g5 ?_
    refine effQuietG (by kernel_rfl) ?_
    apply Exists.intro
    refine ⟨fun w0 g0 => ?_, ?_⟩
    · repeat (first | go_big_quiet_skip | (go_big_quiet_want; go_big_quiet_op; first | go_big_quiet_on | (apply Exists.intro; refine ⟨fun _ => ?_, ?_⟩; (focus (fail)); go_big_quiet_on)))
      refine wpQuiet_nil ?_
      rfl
    intro w6 hV
    have hB6 := past_below hV
    have v6 := (vc.grown g5 (by omega)).below hB6
    have r6 := (rc.grown g5 (by omega)).below hB6
    have k6 := kB hB6 k5
    have s6 := gB hB6 (gT g5 sc)
    obtain ⟨w7, e7, v7, z7, g7⟩ := v6.set2 (wrap64 (c + x5))
    have k7 : Cur _ g w7 := k6.apart g7 (fun k e => by cases e; omega)
    have r7 := r6.grown g7 (by omega)
    have s7 := gO (by omega) g7 s6
    have hci := wrap64_I (c + x5)
    obtain ⟨y60, y61, y62, y63⟩ := v6.at_
    have vl7 := v7.lt
    have rl7 := r7.lt
    obtain ⟨y0, y1, y2, y3⟩ := v7.at_
    obtain ⟨n0, n1, n2, n3⟩ := r7.at_
    clear hV hB6 g7 v6 r6 k6 s6 vc rc kc sc va ra ka sa hBc hBa hW g5 k5 r3 v3 k3 s3 hL hLc
    obtain ⟨Z, hZ⟩ : ∃ Z, wrap64 (c + x5) = Z := ⟨_, rfl⟩
    rw [hZ] at hci y2
    simp only [hZ] at e7
    go_wp2_with fail
    try simp only [hZ]
    try rw [e7]
    refine bodyPost_ret (v := .agg #[.int .i64 a, .int .i64 b, .int .i64 Z]) (by go_light; simp [results, Try.results56, go_sem, *]) rfl ⟨⟨(a, b, Z), rfl, ⟨i0, i1, hci⟩, trivial⟩, ?_, ?_⟩
    · repeat (first | with_reducible refine kA ?_ | ((with_reducible refine kS ?_ ?_); focus omega))
      exact Cur.mono (by assumption) (by omega)
    · repeat (first | with_reducible assumption | with_reducible exact grown_id _ _ | with_reducible refine gA ?_ | ((with_reducible refine gS ?_ ?_); focus (first | omega | (simp <;> omega))) | with_reducible refine gT (by assumption) ?_)
  by_cases c1 : x3 = 1
  · subst c1
    obtain ⟨y0, y1, y2, y3⟩ := v3.at_
    obtain ⟨n0, n1, n2, n3⟩ := r3.at_
    go_wp2_with fail
    refine (among_any _ g w3.heap.size 3 3 I64 _ (kA k3) (by omega) (by omega) (lst_new _ _ _ _ _ rfl ?_) (by have := k3.lt; omega)).mono ?_
    · have hb1 := wrap64_I (b + 1)
      simp [hb1]
      try simp [I64]
    rintro e5 w5 ⟨⟨x5, rfl, p5, -⟩, k5, g5⟩
    have v5 := (v3.below (below_alloc _ _)).grown g5 (by omega)
    have r5 := (r3.below (below_alloc _ _)).grown g5 (by omega)
    have s5 := gT g5 (gA s3)
    have vl5 := v5.lt
    have rl5 := r5.lt
    clear g5 k3 v3 r3 s3 y0 y1 y2 y3 n0 n1 n2 n3 vl rl
    obtain ⟨y0, y1, y2, y3⟩ := v5.at_
    obtain ⟨n0, n1, n2, n3⟩ := r5.at_
    obtain ⟨w7, e7, v7, z7, g7⟩ := v5.set0 x5
    have k7 : Cur _ g w7 := k5.apart g7 (fun k e => by cases e; omega)
    have r7 := r5.grown g7 (by omega)
    have s7 := gO (by omega) g7 s5
    have vl7 := v7.lt
    have rl7 := r7.lt
    obtain ⟨m0, m1, m2, m3⟩ := v7.at_
    obtain ⟨u0, u1, u2, u3⟩ := r7.at_
    clear g7 k5 v5 r5 s5
    go_wp2_with fail
    refine bodyPost_ret (v := .agg #[.int .i64 x5, .int .i64 b, .int .i64 c]) (by go_light; simp [results, Try.results56, go_sem, *]) rfl ⟨⟨(x5, b, c), rfl, ⟨p5, i1, i2⟩, trivial⟩, ?_, ?_⟩
    · repeat (first | with_reducible refine kA ?_ | ((with_reducible refine kS ?_ ?_); focus omega))
      exact Cur.mono (by assumption) (by omega)
    · repeat (first | with_reducible assumption | with_reducible exact grown_id _ _ | with_reducible refine gA ?_ | ((with_reducible refine gS ?_ ?_); focus (first | omega | (simp <;> omega))) | with_reducible refine gT (by assumption) ?_)
  by_cases c2 : x3 = 2
  · subst c2
    obtain ⟨y0, y1, y2, y3⟩ := v3.at_
    obtain ⟨n0, n1, n2, n3⟩ := r3.at_
    go_wp2_with fail
    refine (among_any _ g w3.heap.size 4 4 I64 _ (kA k3) (by omega) (by omega) (lst_new _ _ _ _ _ rfl ?_) (by have := k3.lt; omega)).mono ?_
    · have hb1 := wrap64_I (b + 1)
      simp [hb1]
      try simp [I64]
    rintro e5 w5 ⟨⟨x5, rfl, p5, -⟩, k5, g5⟩
    have v5 := (v3.below (below_alloc _ _)).grown g5 (by omega)
    have r5 := (r3.below (below_alloc _ _)).grown g5 (by omega)
    have s5 := gT g5 (gA s3)
    have vl5 := v5.lt
    have rl5 := r5.lt
    clear g5 k3 v3 r3 s3 y0 y1 y2 y3 n0 n1 n2 n3 vl rl
    obtain ⟨y0, y1, y2, y3⟩ := v5.at_
    obtain ⟨n0, n1, n2, n3⟩ := r5.at_
    obtain ⟨w7, e7, v7, z7, g7⟩ := v5.set1 x5
    have k7 : Cur _ g w7 := k5.apart g7 (fun k e => by cases e; omega)
    have r7 := r5.grown g7 (by omega)
    have s7 := gO (by omega) g7 s5
    have vl7 := v7.lt
    have rl7 := r7.lt
    obtain ⟨m0, m1, m2, m3⟩ := v7.at_
    obtain ⟨u0, u1, u2, u3⟩ := r7.at_
    clear g7 k5 v5 r5 s5
    go_wp2_with fail
    refine bodyPost_ret (v := .agg #[.int .i64 a, .int .i64 x5, .int .i64 c]) (by go_light; simp [results, Try.results56, go_sem, *]) rfl ⟨⟨(a, x5, c), rfl, ⟨i0, p5, i2⟩, trivial⟩, ?_, ?_⟩
    · repeat (first | with_reducible refine kA ?_ | ((with_reducible refine kS ?_ ?_); focus omega))
      exact Cur.mono (by assumption) (by omega)
    · repeat (first | with_reducible assumption | with_reducible exact grown_id _ _ | with_reducible refine gA ?_ | ((with_reducible refine gS ?_ ?_); focus (first | omega | (simp <;> omega))) | with_reducible refine gT (by assumption) ?_)
  have d0 : (x3 == 0) = false := by simp [c0]
  have d1 : (x3 == 1) = false := by simp [c1]
  have d2 : (x3 == 2) = false := by simp [c2]
  obtain ⟨y0, y1, y2, y3⟩ := v3.at_
  obtain ⟨n0, n1, n2, n3⟩ := r3.at_
  go_wp2_with fail
  refine bodyPost_ret (v := .agg #[.int .i64 a, .int .i64 b, .int .i64 c]) (by go_light; simp [results, Try.results56, go_sem, *]) rfl ⟨⟨(a, b, c), rfl, ⟨i0, i1, i2⟩, trivial⟩, ?_, ?_⟩
  · repeat (first | with_reducible refine kA ?_ | ((with_reducible refine kS ?_ ?_); focus omega))
    exact Cur.mono (by assumption) (by omega)
  · repeat (first | with_reducible assumption | with_reducible exact grown_id _ _ | with_reducible refine gA ?_ | ((with_reducible refine gS ?_ ?_); focus (first | omega | (simp <;> omega))) | with_reducible refine gT (by assumption) ?_)
end Go.Proofs.Ytahhbjjnbdggjaa
