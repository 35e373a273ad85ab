/-
  The reference's draws of positive discriminants and of indefinite forms.
-/
import Derived.Test.YtemnkfigjpphgaaCya
import Derived.Test.YtemnkfigjpphgaaDrf
import Derived.Test.YtemnkfigjpphgaaByt
namespace Go.Proofs.Ytemnkfigjpphgaa
open Go.RowKit
attribute [local simp, local go_sem] past_cell past_frozen past_tape
set_option maxRecDepth 100000 in
set_option maxHeartbeats 8000000 in
theorem movedI_any (m g : Nat) (a b c : Int) (w : World) (h : Cur m g w) (hm : m ≤ 800000) :
    Calls Try.prog 110 #[.pointer (some ⟨g, 0, none⟩), .agg #[.int .i64 a, .int .i64 b, .int .i64 c]] w fun e w' => (∃ x : Int × Int × Int, e = .returned (.agg #[.int .i64 x.1, .int .i64 x.2.1, .int .i64 x.2.2]) ∧ True ∧ True) ∧ Cur (m + 40) g w' ∧ w.grownBy w' (some g) := by
  have hlt := h.lt
  have k0 : Cur m g ((w.alloc (.cells #[.int .i64 a, .int .i64 b, .int .i64 c] 36)).alloc (.cells #[.int .i64 0, .int .i64 0, .int .i64 0] 36)) := kA (kA h)
  go_enter Try.func110, Try.ntmps110
  go_wp2_with fail
  refine region_mixF g 5 4 [0, 1] [(false, 2), (false, 3)] _ (.cells #[.int .i64 0, .int .i64 0, .int .i64 0] 36) (by kernel_rfl) (by kernel_rfl) (by first | exact hlt | omega | (simp; omega)) rfl rfl (fun _ _ => by simp [go_sem]) (by kernel_rfl) ?_
  apply Exists.intro
  refine ⟨fun w0 g0 => ?_, ?_⟩
  · obtain ⟨hC0, hF0⟩ := gcell g0 hlt
    have hS0 := g0.size
    (try simp at hS0)
    (try have hS0_w : w.heap.size < w0.heap.size := by omega)
    (try have hM0_1 : w.heap.size < w0.heap.size + 1 := by omega)
    (try have hS0_v : w.heap.size + 1 < w0.heap.size := by omega)
    (try have hS0_u : w.heap.size + 1 + 1 < w0.heap.size := by omega)
    (try have hS0_t : w.heap.size + 1 + 1 + 1 < w0.heap.size := by omega)
    simp only [List.filterMap_cons, List.filterMap_nil, List.getElem?_cons_zero, List.getElem?_cons_succ]
    show wpQuiet _ _ _ _ [_, _] _
    repeat (first | go_big_quiet_skip | (go_big_quiet_want; go_big_quiet_op; first | go_big_quiet_on | (apply Exists.intro; refine ⟨fun _ => ?_, ?_⟩; (focus (fail)); go_big_quiet_on)))
    refine wpQuiet_nil ?_
    rfl
  intro W hW hWz
  simp only [List.filterMap_cons, List.filterMap_nil, List.getElem?_cons_zero, List.getElem?_cons_succ, Option.map_some, List.drop_succ_cons, List.drop_zero]
  show effWG _ _ _ _ [(false, _), (false, _)] _ _
  refine effG_of fun wa hBa => ?_
  go_wp2_with fail
  refine (proper_any m g _ (kB hBa (kB hW k0)) (by omega)).mono ?_
  rintro e1 w1 ⟨⟨⟨p, q, r, s⟩, rfl, p1, q1⟩, k1, g1⟩
  go_wp2
  refine effR_of rfl g1 ?_
  refine effG_of fun wc hBc => ?_
  go_wp2_with fail
  refine (foAct_any a b c p q r s _).mono ?_
  rintro e2 w2 ⟨rfl, hB2⟩
  go_wp2
  refine effR_of rfl (gB hB2 (grown_id _ _)) ?_
  intro w3 bb hV hb1 hb2 hb3
  have k3 := kB (past_below hV) (kB hB2 (kB hBc k1))
  have g3 : w.grownBy w3 (some g) := gB (past_below hV) (gB hB2 (gB hBc (gT g1 (gB hBa (gB hW (gA (gA (grown_id _ _))))))))
  have g3' := gB (past_below hV) (gB hB2 (gB hBc (gT g1 (gB hBa (gB hW (grown_id _ (some g)))))))
  obtain ⟨hC3, hF3⟩ := gcell g3' hlt
  obtain ⟨hz, hfz⟩ := cells_at hb3
  have hS3 := g3'.size
  (try simp at hS3)
  (try simp at hb1)
  clear hV hB2 hBc g1 hBa hW g3'
  obtain ⟨w4, e4, h4, z4, g4⟩ := set3 (.int .i64 (valW a b c p r)) (.int .i64 (polW a b c p r q s)) (.int .i64 (valW a b c q s)) hb3
  obtain ⟨c4, f4⟩ := cells_at h4
  obtain ⟨hC4, hF4⟩ := fcell g4
  go_wp2_with fail
  try rw [e4]
  have k4 : Cur (m + 40) g w4 := k3.apart g4 (fun k e => by cases e; omega)
  have g5 : w.grownBy w4 (some g) := gO (by omega) g4 g3
  have hr0 : w4.cell? ⟨w.heap.size, 0, none⟩ = some (.int .i64 a) := by rw [hC4 _ _ (by omega) (by omega), hC3 _ _ (by omega) (by simp; omega)]; simp
  have hr1 : w4.cell? ⟨w.heap.size, 1, none⟩ = some (.int .i64 b) := by rw [hC4 _ _ (by omega) (by omega), hC3 _ _ (by omega) (by simp; omega)]; simp
  have hr2 : w4.cell? ⟨w.heap.size, 2, none⟩ = some (.int .i64 c) := by rw [hC4 _ _ (by omega) (by omega), hC3 _ _ (by omega) (by simp; omega)]; simp
  have hr3 : w4.frozen? ⟨w.heap.size, 0, none⟩ = false ∧ w4.frozen? ⟨w.heap.size, 1, none⟩ = false ∧ w4.frozen? ⟨w.heap.size, 2, none⟩ = false := by
    refine ⟨?_, ?_, ?_⟩ <;> (rw [hF4 _ _ (by omega) (by omega), hF3 _ _ (by omega) (by simp; omega)]; simp)
  have hs0 : ∀ i, i < 3 → w4.cell? ⟨w.heap.size + 1, i, none⟩ = some (.int .i64 0) := by
    intro i hi
    rw [hC4 _ _ (by omega) (by omega), hC3 _ _ (by omega) (by simp)]
    obtain rfl | rfl | rfl : i = 0 ∨ i = 1 ∨ i = 2 := by omega
    all_goals simp
  have hs1 : ∀ i, w4.frozen? ⟨w.heap.size + 1, i, none⟩ = false := by
    intro i
    rw [hF4 _ _ (by omega) (by omega), hF3 _ _ (by omega) (by simp)]
    simp
  clear hC3 hF3 hC4 hF4 hz hfz h4 hb3 e4 g4 g3 k3 h k0
  refine (foGood_any _ _ _ _).mono ?_
  rintro e5 w5 ⟨rfl, hB5⟩
  have k5 := kB hB5 k4
  have g6 := gB hB5 g5
  have hS5 := hB5.size
  obtain ⟨hC5, hF5⟩ := bcell hB5
  have hl1 : w.heap.size < w4.heap.size := by omega
  have hl2 : w.heap.size + 1 < w4.heap.size := by omega
  have hl3 : bb < w4.heap.size := by omega
  have t0 : w5.cell? ⟨w.heap.size, 0, none⟩ = some (.int .i64 a) := by rw [hC5 _ _ hl1]; exact hr0
  have t1 : w5.cell? ⟨w.heap.size, 1, none⟩ = some (.int .i64 b) := by rw [hC5 _ _ hl1]; exact hr1
  have t2 : w5.cell? ⟨w.heap.size, 2, none⟩ = some (.int .i64 c) := by rw [hC5 _ _ hl1]; exact hr2
  have u0 : w5.cell? ⟨bb, 0, none⟩ = some (.int .i64 (valW a b c p r)) := by rw [hC5 _ _ hl3, c4]; rfl
  have u1 : w5.cell? ⟨bb, 1, none⟩ = some (.int .i64 (polW a b c p r q s)) := by rw [hC5 _ _ hl3, c4]; rfl
  have u2 : w5.cell? ⟨bb, 2, none⟩ = some (.int .i64 (valW a b c q s)) := by rw [hC5 _ _ hl3, c4]; rfl
  have s0 : w5.cell? ⟨w.heap.size + 1, 0, none⟩ = some (.int .i64 0) := by rw [hC5 _ _ hl2]; exact hs0 0 (by omega)
  have s1 : w5.cell? ⟨w.heap.size + 1, 1, none⟩ = some (.int .i64 0) := by rw [hC5 _ _ hl2]; exact hs0 1 (by omega)
  have s2 : w5.cell? ⟨w.heap.size + 1, 2, none⟩ = some (.int .i64 0) := by rw [hC5 _ _ hl2]; exact hs0 2 (by omega)
  have sf : ∀ i, w5.frozen? ⟨w.heap.size + 1, i, none⟩ = false := fun i => by rw [hF5 _ _ hl2]; exact hs1 i
  have hl4 : g < w.heap.size + 1 := by omega
  clear hC5 hF5 hl1 hl2 hl3 z4 c4 f4 hr0 hr1 hr2 hr3 hs0 hs1 hS3 hS5 hb1 hb2 hWz
  cases hgd : formB (valW a b c p r) (polW a b c p r q s) (valW a b c q s)
  · go_wp2_with fail
    refine bodyPost_ret (v := .agg #[.int .i64 a, .int .i64 b, .int .i64 c]) (by go_light; simp [results, Try.results110, go_sem, *]) rfl ⟨⟨(a, b, c), rfl, trivial, trivial⟩, ?_, ?_⟩
    · repeat (first | with_reducible refine kA ?_ | ((with_reducible refine kS ?_ ?_); focus omega))
      exact Cur.mono (by assumption) (by omega)
    · repeat (first | with_reducible assumption | with_reducible exact grown_id _ _ | with_reducible refine gA ?_ | ((with_reducible refine gS ?_ ?_); focus (first | omega | (simp <;> omega))) | with_reducible refine gT (by assumption) ?_)
  · go_wp2_with fail
    refine bodyPost_ret (v := .agg #[.int .i64 (valW a b c p r), .int .i64 (polW a b c p r q s), .int .i64 (valW a b c q s)]) (by go_light; simp [results, Try.results110, go_sem, *]) rfl ⟨⟨(valW a b c p r, polW a b c p r q s, valW a b c q s), rfl, trivial, trivial⟩, ?_, ?_⟩
    · repeat (first | with_reducible refine kA ?_ | ((with_reducible refine kS ?_ ?_); focus omega))
      exact Cur.mono (by assumption) (by omega)
    · repeat (first | with_reducible assumption | with_reducible exact grown_id _ _ | with_reducible refine gA ?_ | ((with_reducible refine gS ?_ ?_); focus (first | omega | (simp <;> omega))) | with_reducible refine gT (by assumption) ?_)
set_option maxRecDepth 100000 in
set_option maxHeartbeats 4000000 in
theorem positive_any (m g : Nat) (w : World) (h : Cur m g w) (hm : m ≤ 900000) :
    Calls Try.prog 41 #[.pointer (some ⟨g, 0, none⟩)] w fun e w' => (∃ x : Int, e = .returned (.int .i64 x) ∧ I64 x ∧ True) ∧ Cur (m + 10) g w' ∧ w.grownBy w' (some g) := by
  go_enter Try.func41, Try.ntmps41
  go_wp2_with fail
  refine (pick_any _ g _ _ h (by omega) (by omega)).mono ?_
  rintro e1 w1 ⟨⟨x1, rfl, p1, q1⟩, k1, g1⟩
  by_cases c0 : x1 = 0
  · subst c0
    go_wp2_with fail
    refine (among_any (m + 2) g w1.heap.size 12 12 I64 _ (kA k1) (by omega) (by omega) (lst_new _ _ _ _ _ rfl ?_) (by have := k1.lt; omega)).mono ?_
    · simp [I64]
    rintro e2 w2 ⟨⟨x2, rfl, p2, q2⟩, k2, g2⟩
    go_wp2_with fail
    go_ret
    exact ⟨⟨_, rfl, p2, trivial⟩, k2.mono (by omega), grown_then g1 (grown_then (grown_of (below_alloc _ _) _) g2)⟩
  by_cases c1 : x1 = 1
  · subst c1
    go_wp2_with fail
    refine (among_any (m + 2) g w1.heap.size 15 15 I64 _ (kA k1) (by omega) (by omega) (lst_new _ _ _ _ _ rfl ?_) (by have := k1.lt; omega)).mono ?_
    · simp [I64]
    rintro e2 w2 ⟨⟨x2, rfl, p2, q2⟩, k2, g2⟩
    go_wp2_with fail
    go_ret
    exact ⟨⟨_, rfl, p2, trivial⟩, k2.mono (by omega), grown_then g1 (grown_then (grown_of (below_alloc _ _) _) g2)⟩
  by_cases c2 : x1 = 2
  · subst c2
    go_wp2_with fail
    refine (among_any (m + 2) g w1.heap.size 15 15 I64 _ (kA k1) (by omega) (by omega) (lst_new _ _ _ _ _ rfl ?_) (by have := k1.lt; omega)).mono ?_
    · simp [I64]
    rintro e2 w2 ⟨⟨x2, rfl, p2, q2⟩, k2, g2⟩
    go_wp2_with fail
    go_ret
    exact ⟨⟨_, rfl, p2, trivial⟩, k2.mono (by omega), grown_then g1 (grown_then (grown_of (below_alloc _ _) _) g2)⟩
  have d0 : (x1 == 0) = false := by simp [c0]
  have d1 : (x1 == 1) = false := by simp [c1]
  have d2 : (x1 == 2) = false := by simp [c2]
  clear c0 c1 c2
  go_wp2_with fail
  refine (pick_any _ g _ _ k1 (by omega) (by omega)).mono ?_
  rintro e2 w2 ⟨⟨x2, rfl, p2, q2⟩, k2, g2⟩
  have hw1 : wrap64 (4 * x2) = 4 * x2 := by unfold wrap64; omega
  have hw2 : wrap64 (5 + 4 * x2) = 5 + 4 * x2 := by unfold wrap64; omega
  have hw3 : wrap64 (5 + 4 * x2 - 1) = 5 + 4 * x2 - 1 := by unfold wrap64; omega
  go_wp2_with fail
  refine (one_any _ g _ _ k2 (by omega) (by omega)).mono ?_
  rintro e3 w3 ⟨⟨x3, rfl, p3, q3⟩, k3, g3⟩
  cases x3
  · go_wp2_with fail
    go_ret
    exact ⟨⟨_, rfl, by unfold I64; omega, trivial⟩, k3.mono (by omega), grown_then g1 (grown_then g2 g3)⟩
  · go_wp2_with fail
    go_ret
    exact ⟨⟨_, rfl, by unfold I64; omega, trivial⟩, k3.mono (by omega), grown_then g1 (grown_then g2 g3)⟩
theorem pos136 : posB 136 = true := by
  have h : isqrt 136 = 11 := isqrt_unique (by decide) (by decide) (by decide)
  unfold posB sqB
  rw [h]
  decide
theorem goodPositive_any (m g : Nat) (w : World) (h : Cur m g w) (hm : m ≤ 900000) :
    Calls Try.prog 92 #[.pointer (some ⟨g, 0, none⟩)] w fun e w' => (∃ x : Int, e = .returned (.int .i64 x) ∧ posB x = true ∧ True) ∧ Cur (m + 10) g w' ∧ w.grownBy w' (some g) := by
  go_enter Try.func92, Try.ntmps92
  go_wp2_with fail
  refine (positive_any _ g _ h (by omega) ).mono ?_
  rintro e1 w1 ⟨⟨x1, rfl, p1, q1⟩, k1, g1⟩
  have hcy : Hid (∀ w0, Calls Try.prog 46 #[.int .i64 x1] w0 fun en w' => en = .returned (.bool (posB x1)) ∧ w0 = w') := Lib.hid fun w0 => cyDisc_any x1 w0 p1
  cases hp : posB x1
  · rw [hp] at hcy
    go_wp2_with (go_at_call 46; refine (hcy.out _).mono ?_; rintro e w' ⟨rfl, rfl⟩)
    go_ret
    exact ⟨⟨136, rfl, pos136, trivial⟩, k1, g1⟩
  · rw [hp] at hcy
    have HP := Lib.hid hp
    clear hp
    go_wp2_with (go_at_call 46; refine (hcy.out _).mono ?_; rintro e w' ⟨rfl, rfl⟩)
    go_ret
    exact ⟨⟨x1, rfl, HP.out, trivial⟩, k1, g1⟩
set_option maxRecDepth 100000 in
set_option maxHeartbeats 4000000 in
theorem cyclic_any (m g : Nat) (d : Int) (w : World) (h : Cur m g w) (hm : m ≤ 900000) (hd : posB d = true) :
    Calls Try.prog 91 #[.pointer (some ⟨g, 0, none⟩), .int .i64 d] w fun e w' => (∃ x : Int × Int × Int, e = .returned (.agg #[.int .i64 x.1, .int .i64 x.2.1, .int .i64 x.2.2]) ∧ True ∧ True) ∧ Cur (m + 10) g w' ∧ w.grownBy w' (some g) := by
  have hlt := h.lt
  have k0 : Cur m g (w.alloc (.cells #[.int .i64 0, .int .i64 0, .int .i64 0] 36)) := kA h
  go_enter Try.func91, Try.ntmps91
  go_wp2_with fail
  refine (cyAll_any d _ hd).mono ?_
  rintro e1 w1 ⟨v1, L, rfl, hr1, hL1, hL3, hB1⟩
  obtain ⟨hC1, hF1⟩ := bcell hB1
  have hz1 := hB1.size
  (try simp at hz1)
  have k1 := kB hB1 k0
  obtain ⟨n, hn⟩ : ∃ n, L.length = n := ⟨_, rfl⟩
  obtain ⟨a1, c1', hv1, _, _, hs1⟩ := hr1.sees c3_len
  rw [hn] at hv1 hL1 hL3
  subst hv1
  have g1 : w.grownBy w1 (some g) := gB hB1 (gA (grown_id _ _))
  clear hB1
  go_wp2_with fail
  refine (pick_any _ g _ _ k1 (by omega) (by omega)).mono ?_
  rintro e2 w2 ⟨⟨x2, rfl, p2, q2⟩, k2, g2⟩
  obtain ⟨hC2, hF2⟩ := gcell g2 hlt
  have hz2 := g2.size
  have hl1 : w.heap.size < w1.heap.size := by omega
  have hl2 : w.heap.size < w2.heap.size := by omega
  obtain ⟨i, rfl⟩ : ∃ i : Nat, x2 = i := ⟨x2.toNat, by omega⟩
  have hi : i < n := by omega
  have hi' : (i : Int) < (n : Int) := by omega
  obtain ⟨x, hx⟩ := get_some hn hi
  obtain ⟨b, rfl, hc0, hc1, hc2⟩ : ∃ b, a1 = some ⟨b, 0, none⟩ ∧ w2.cell? ⟨b, i * 3, none⟩ = some (.int .i64 x.1) ∧ w2.cell? ⟨b, i * 3 + 1, none⟩ = some (.int .i64 x.2.1) ∧ w2.cell? ⟨b, i * 3 + 2, none⟩ = some (.int .i64 x.2.2) := by
    rcases hs1 with h0 | ⟨b, rfl, hb1, hb2, hcell, _⟩
    · omega
    · simp at hb1
      have e := fun o => hC2 b o (by omega) hb2
      exact ⟨b, rfl, by rw [e]; simpa [c3] using hcell i x hx 0 (by omega), by rw [e]; simpa [c3] using hcell i x hx 1 (by omega), by rw [e]; simpa [c3] using hcell i x hx 2 (by omega)⟩
  obtain ⟨a, b', c⟩ := x
  simp only at hc0 hc1 hc2
  clear hs1 hr1
  go_wp2_with fail
  refine bodyPost_ret (v := .agg #[.int .i64 a, .int .i64 b', .int .i64 c]) (by go_light; simp [results, Try.results91, go_sem, *]) rfl ⟨⟨(a, b', c), rfl, trivial, trivial⟩, ?_, ?_⟩
  · repeat (first | with_reducible refine kA ?_ | ((with_reducible refine kS ?_ ?_); focus omega))
    exact Cur.mono (by assumption) (by omega)
  · repeat (first | with_reducible assumption | with_reducible exact grown_id _ _ | with_reducible refine gA ?_ | ((with_reducible refine gS ?_ ?_); focus (first | omega | (simp <;> omega))) | with_reducible refine gT (by assumption) ?_)
set_option maxRecDepth 100000 in
set_option maxHeartbeats 8000000 in
theorem indefinite_any (m g : Nat) (w : World) (h : Cur m g w) (hm : m ≤ 700000) :
    Calls Try.prog 90 #[.pointer (some ⟨g, 0, none⟩)] w fun e w' => (∃ x : Int × Int × Int, e = .returned (.agg #[.int .i64 x.1, .int .i64 x.2.1, .int .i64 x.2.2]) ∧ True ∧ True) ∧ Cur (m + 100) g w' ∧ w.grownBy w' (some g) := by
  have hlt := h.lt
  have k0 : Cur m g (w.alloc (.cells #[.int .i64 0, .int .i64 0, .int .i64 0] 36)) := kA h
  have r0 : Blk w.heap.size 36 #[.int .i64 0, .int .i64 0, .int .i64 0] (w.alloc (.cells #[.int .i64 0, .int .i64 0, .int .i64 0] 36)) := Blk.new _ _ _
  have s0 : w.grownBy (w.alloc (.cells #[.int .i64 0, .int .i64 0, .int .i64 0] 36)) (some g) := gA (grown_id _ _)
  have ng : some w.heap.size ≠ some g := fun e => by cases e; omega
  go_enter Try.func90, Try.ntmps90
  go_wp2_with fail
  refine (one_any _ g _ _ k0 (by omega) (by omega)).mono ?_
  rintro e1 w1 ⟨⟨x1, rfl, -, -⟩, k1, g1⟩
  have r1 := r0.grown g1 ng
  have s1 := grown_then s0 g1
  clear r0 k0 s0 g1
  cases x1 with
  | true =>
    go_wp2_with fail
    refine (form_any _ g _ k1 (by omega)).mono ?_
    rintro e2 w2 ⟨⟨⟨a, b, c⟩, rfl, -, -⟩, k2, g2⟩
    have r2 := r1.grown g2 ng
    have s2 := grown_then s1 g2
    have cr := r2.cell
    have fr := r2.froz
    clear r1 k1 s1 g2
    go_wp2_with fail
    refine bodyPost_ret (v := .agg #[.int .i64 a, .int .i64 b, .int .i64 c]) (by go_light; simp [results, Try.results90, go_sem, *]) rfl ⟨⟨(a, b, c), rfl, trivial, trivial⟩, ?_, ?_⟩
    · repeat (first | with_reducible refine kA ?_ | ((with_reducible refine kS ?_ ?_); focus omega))
      exact Cur.mono (by assumption) (by omega)
    · repeat (first | with_reducible assumption | with_reducible exact grown_id _ _ | with_reducible refine gA ?_ | ((with_reducible refine gS ?_ ?_); focus (first | omega | (simp <;> omega))) | with_reducible refine gT (by assumption) ?_)
  | false =>
    go_wp2_with fail
    refine (goodPositive_any _ g _ k1 (by omega)).mono ?_
    rintro e2 w2 ⟨⟨d, rfl, hd, -⟩, k2, g2⟩
    have r2 := r1.grown g2 ng
    have s2 := grown_then s1 g2
    clear r1 k1 s1 g2
    go_wp2_with fail
    refine (cyclic_any _ g d _ k2 (by omega) hd).mono ?_
    rintro e3 w3 ⟨⟨⟨a, b, c⟩, rfl, -, -⟩, k3, g3⟩
    have r3 := r2.grown g3 ng
    have s3 := grown_then s2 g3
    have z3 := s3.size
    have rl3 := r3.lt
    clear r2 k2 s2 g3 hd
    obtain ⟨bf, hbf⟩ : ∃ bf, w3.heap.size = bf := ⟨_, rfl⟩
    obtain ⟨w4, e4, f4, r4, k4, s4⟩ : ∃ w4, w3.alloc (.cells #[.int .i64 a, .int .i64 b, .int .i64 c] 36) = w4 ∧ Blk bf 36 #[.int .i64 a, .int .i64 b, .int .i64 c] w4 ∧ Blk w.heap.size 36 #[.int .i64 0, .int .i64 0, .int .i64 0] w4 ∧ Cur _ g w4 ∧ w.grownBy w4 (some g) :=
      ⟨_, rfl, by rw [← hbf]; exact Blk.new _ _ _, r3.alloc _, kA k3, gA s3⟩
    clear r3 k3 s3
    rw [hbf] at z3 rl3
    have nf : some bf ≠ some g := fun e => by cases e; omega
    have nb1 : ¬ w.heap.size = bf := by omega
    have nb2 : ¬ bf = w.heap.size := by omega
    go_wp2_with fail
    try rw [e4]
    refine (one_any _ g _ _ k4 (by omega) (by omega)).mono ?_
    rintro e5 w5 ⟨⟨x5, rfl, -, -⟩, k5, g5⟩
    have f5 := f4.grown g5 nf
    have r5 := r4.grown g5 ng
    have s5 := grown_then s4 g5
    clear f4 r4 k4 s4 g5 e4 hbf
    have cf5 := f5.cell
    have ff5 := f5.froz
    have lf5 := f5.lt
    have tail : ∀ (a b c : Int) (x : World), Blk bf 36 #[.int .i64 a, .int .i64 b, .int .i64 c] x → Blk w.heap.size 36 #[.int .i64 0, .int .i64 0, .int .i64 0] x → Cur (m + 2 + 10 + 10 + 2) g x → w.grownBy x (some g) → True := fun _ _ _ _ _ _ _ _ => trivial
    clear tail
    cases x5 with
    | false =>
      go_wp2_with fail
      refine (one_any _ g _ _ k5 (by omega) (by omega)).mono ?_
      rintro e7 w7 ⟨⟨x7, rfl, -, -⟩, k7, g7⟩
      have f7 := f5.grown g7 nf
      have r7 := r5.grown g7 ng
      have s7 := grown_then s5 g7
      have cf7 := f7.cell
      have lf7 := f7.lt
      have cr7 := r7.cell
      have fr7 := r7.froz
      clear f5 r5 k5 s5 g7
      cases x7 with
      | true =>
        go_wp2_with fail
        refine bodyPost_ret (v := .agg #[.int .i64 a, .int .i64 b, .int .i64 c]) (by go_light; simp [results, Try.results90, go_sem, *]) rfl ⟨⟨(a, b, c), rfl, trivial, trivial⟩, ?_, ?_⟩
        · repeat (first | with_reducible refine kA ?_ | ((with_reducible refine kS ?_ ?_); focus omega))
          exact Cur.mono (by assumption) (by omega)
        · repeat (first | with_reducible assumption | with_reducible exact grown_id _ _ | with_reducible refine gA ?_ | ((with_reducible refine gS ?_ ?_); focus (first | omega | (simp <;> omega))) | with_reducible refine gT (by assumption) ?_)
      | false =>
        go_wp2_with fail
        refine (movedI_any _ g a b c _ k7 (by omega)).mono ?_
        rintro e8 w8 ⟨⟨⟨a', b', c'⟩, rfl, -, -⟩, k8, g8⟩
        have r8 := r7.grown g8 ng
        have s8 := grown_then s7 g8
        have cr8 := r8.cell
        have fr8 := r8.froz
        clear r7 k7 s7 g8 cf7 lf7 cr7 fr7
        go_wp2_with fail
        refine bodyPost_ret (v := .agg #[.int .i64 a', .int .i64 b', .int .i64 c']) (by go_light; simp [results, Try.results90, go_sem, *]) rfl ⟨⟨(a', b', c'), rfl, trivial, trivial⟩, ?_, ?_⟩
        · repeat (first | with_reducible refine kA ?_ | ((with_reducible refine kS ?_ ?_); focus omega))
          exact Cur.mono (by assumption) (by omega)
        · repeat (first | with_reducible assumption | with_reducible exact grown_id _ _ | with_reducible refine gA ?_ | ((with_reducible refine gS ?_ ?_); focus (first | omega | (simp <;> omega))) | with_reducible refine gT (by assumption) ?_)
    | true =>
      go_wp2_with fail
      refine (foDisc_any a b c _).mono ?_
      rintro e6 w6 ⟨rfl, hB6⟩
      have f6 := f5.below hB6
      have r6 := r5.below hB6
      have k6 := kB hB6 k5
      have s6 := gB hB6 s5
      have cf6 := f6.cell
      have ff6 := f6.froz
      have lf6 := f6.lt
      clear f5 r5 k5 s5 hB6 cf5 ff5 lf5
      by_cases hdc : discW a b c < 100
      · have hdc' : decide (discW a b c < 100) = true := decide_eq_true hdc
        clear hdc
        obtain ⟨y6, ey6, fy6, zy6, gy6⟩ := f6.set3 (.int .i64 (wrap64 (3 * a))) (.int .i64 (wrap64 (3 * b))) (.int .i64 (wrap64 (3 * c)))
        have ry6 := r6.grown gy6 (fun e => by cases e; omega)
        have ky6 : Cur _ g y6 := k6.apart gy6 (fun k e => by cases e; omega)
        have sy6 : w.grownBy y6 (some g) := by
          refine ⟨gy6.os.trans s6.os, gy6.tape.trans s6.tape, gy6.output.trans s6.output, Nat.le_trans s6.size gy6.size, fun k hk hne => ?_⟩
          rw [gy6.block k (Nat.lt_of_lt_of_le hk s6.size) (fun e => by cases e; omega)]
          exact s6.block k hk hne
        clear gy6 zy6 f6 r6 k6 s6
        go_wp2_with fail
        try rw [ey6]
        refine (one_any _ g _ _ ky6 (by omega) (by omega)).mono ?_
        rintro e7 w7 ⟨⟨x7, rfl, -, -⟩, k7, g7⟩
        have f7 := fy6.grown g7 nf
        have r7 := ry6.grown g7 ng
        have s7 := grown_then sy6 g7
        have cf7 := f7.cell
        have lf7 := f7.lt
        have cr7 := r7.cell
        have fr7 := r7.froz
        clear fy6 ry6 ky6 sy6 g7
        cases x7 with
        | true =>
          go_wp2_with fail
          refine bodyPost_ret (v := .agg #[.int .i64 (wrap64 (3 * a)), .int .i64 (wrap64 (3 * b)), .int .i64 (wrap64 (3 * c))]) (by go_light; simp [results, Try.results90, go_sem, *]) rfl ⟨⟨(wrap64 (3 * a), wrap64 (3 * b), wrap64 (3 * c)), rfl, trivial, trivial⟩, ?_, ?_⟩
          · repeat (first | with_reducible refine kA ?_ | ((with_reducible refine kS ?_ ?_); focus omega))
            exact Cur.mono (by assumption) (by omega)
          · repeat (first | with_reducible assumption | with_reducible exact grown_id _ _ | with_reducible refine gA ?_ | ((with_reducible refine gS ?_ ?_); focus (first | omega | (simp <;> omega))) | with_reducible refine gT (by assumption) ?_)
        | false =>
          go_wp2_with fail
          refine (movedI_any _ g (wrap64 (3 * a)) (wrap64 (3 * b)) (wrap64 (3 * c)) _ k7 (by omega)).mono ?_
          rintro e8 w8 ⟨⟨⟨a', b', c'⟩, rfl, -, -⟩, k8, g8⟩
          have r8 := r7.grown g8 ng
          have s8 := grown_then s7 g8
          have cr8 := r8.cell
          have fr8 := r8.froz
          clear r7 k7 s7 g8 cf7 lf7 cr7 fr7
          go_wp2_with fail
          refine bodyPost_ret (v := .agg #[.int .i64 a', .int .i64 b', .int .i64 c']) (by go_light; simp [results, Try.results90, go_sem, *]) rfl ⟨⟨(a', b', c'), rfl, trivial, trivial⟩, ?_, ?_⟩
          · repeat (first | with_reducible refine kA ?_ | ((with_reducible refine kS ?_ ?_); focus omega))
            exact Cur.mono (by assumption) (by omega)
          · repeat (first | with_reducible assumption | with_reducible exact grown_id _ _ | with_reducible refine gA ?_ | ((with_reducible refine gS ?_ ?_); focus (first | omega | (simp <;> omega))) | with_reducible refine gT (by assumption) ?_)
      · have hdc' : decide (discW a b c < 100) = false := decide_eq_false hdc
        clear hdc
        go_wp2_with fail
        refine (one_any _ g _ _ k6 (by omega) (by omega)).mono ?_
        rintro e7 w7 ⟨⟨x7, rfl, -, -⟩, k7, g7⟩
        have f7 := f6.grown g7 nf
        have r7 := r6.grown g7 ng
        have s7 := grown_then s6 g7
        have cf7 := f7.cell
        have lf7 := f7.lt
        have cr7 := r7.cell
        have fr7 := r7.froz
        clear f6 r6 k6 s6 g7
        cases x7 with
        | true =>
          go_wp2_with fail
          refine bodyPost_ret (v := .agg #[.int .i64 a, .int .i64 b, .int .i64 c]) (by go_light; simp [results, Try.results90, go_sem, *]) rfl ⟨⟨(a, b, c), rfl, trivial, trivial⟩, ?_, ?_⟩
          · repeat (first | with_reducible refine kA ?_ | ((with_reducible refine kS ?_ ?_); focus omega))
            exact Cur.mono (by assumption) (by omega)
          · repeat (first | with_reducible assumption | with_reducible exact grown_id _ _ | with_reducible refine gA ?_ | ((with_reducible refine gS ?_ ?_); focus (first | omega | (simp <;> omega))) | with_reducible refine gT (by assumption) ?_)
        | false =>
          go_wp2_with fail
          refine (movedI_any _ g a b c _ k7 (by omega)).mono ?_
          rintro e8 w8 ⟨⟨⟨a', b', c'⟩, rfl, -, -⟩, k8, g8⟩
          have r8 := r7.grown g8 ng
          have s8 := grown_then s7 g8
          have cr8 := r8.cell
          have fr8 := r8.froz
          clear r7 k7 s7 g8 cf7 lf7 cr7 fr7
          go_wp2_with fail
          refine bodyPost_ret (v := .agg #[.int .i64 a', .int .i64 b', .int .i64 c']) (by go_light; simp [results, Try.results90, go_sem, *]) rfl ⟨⟨(a', b', c'), rfl, trivial, trivial⟩, ?_, ?_⟩
          · repeat (first | with_reducible refine kA ?_ | ((with_reducible refine kS ?_ ?_); focus omega))
            exact Cur.mono (by assumption) (by omega)
          · repeat (first | with_reducible assumption | with_reducible exact grown_id _ _ | with_reducible refine gA ?_ | ((with_reducible refine gS ?_ ?_); focus (first | omega | (simp <;> omega))) | with_reducible refine gT (by assumption) ?_)
end Go.Proofs.Ytemnkfigjpphgaa
