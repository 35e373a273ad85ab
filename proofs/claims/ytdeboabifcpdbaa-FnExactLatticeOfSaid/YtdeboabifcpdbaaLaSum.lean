/-
  SumOfLattices, and the walk of its law.
-/
import Derived.Test.YtdeboabifcpdbaaLaW
namespace Go.Proofs.Ytdeboabifcpdbaa
open Go.RowKit
attribute [local simp, local go_sem] past_cell past_frozen past_tape
def sumV (a b d a' b' d' : Int) : List (Int × Int) := [(a, 0), (b, d), (a', 0), (b', d')]
theorem fold_a (l : List (Int × Int)) : ∀ s : Int × Int × Int, (l.foldl hStep s).1 ∣ s.1 := by
  induction l with
  | nil => intro s; exact Int.dvd_refl _
  | cons v l ih => intro s; exact Int.dvd_trans (ih _) (Int.gcd_dvd_left ..)
theorem sum_small {a b d a' b' d' : Int} (h : latB a b d = true) (h' : latB a' b' d' = true) : Small (sumV a b d a' b' d') := by
  obtain ⟨h1, h2, h3, h4, h5, h6⟩ := latB_true h
  obtain ⟨k1, k2, k3, k4, k5, k6⟩ := latB_true h'
  intro g hg
  simp only [sumV, List.mem_cons, List.not_mem_nil, or_false] at hg
  rcases hg with rfl | rfl | rfl | rfl
  · exact ⟨⟨by show _ ≤ a; omega, by show a ≤ _; omega⟩, bd00 (by omega)⟩
  · exact ⟨⟨by show _ ≤ b; omega, by show b ≤ _; omega⟩, ⟨by show _ ≤ d; omega, by show d ≤ _; omega⟩⟩
  · exact ⟨⟨by show _ ≤ a'; omega, by show a' ≤ _; omega⟩, bd00 (by omega)⟩
  · exact ⟨⟨by show _ ≤ b'; omega, by show b' ≤ _; omega⟩, ⟨by show _ ≤ d'; omega, by show d' ≤ _; omega⟩⟩
theorem sum_ok {a b d a' b' d' : Int} (h : latB a b d = true) (h' : latB a' b' d' = true) : laOk (sumV a b d a' b' d') = true := by
  have hs := sum_small h h'
  obtain ⟨h1, h2, h3, h4, h5, h6⟩ := latB_true h
  have hH : OI (lS (sumV a b d a' b' d')).1 (lS (sumV a b d a' b' d')).2.1 (lS (sumV a b d a' b' d')).2.2 := oi_foldH _ (0, 0, 0) hs oi_zero
  have hL : OI (lT (sumV a b d a' b' d')).1 (lT (sumV a b d a' b' d')).2.1 (lT (sumV a b d a' b' d')).2.2 := oi_foldL _ (0, 0, 0) hs oi_zero
  obtain ⟨e1, e2, _⟩ := l_same hs
  have es : lS (sumV a b d a' b' d') = [(b, d), (a', 0), (b', d')].foldl hStep (a, 0, 0) := by
    show [(b, d), (a', 0), (b', d')].foldl hStep (hStep (0, 0, 0) (a, 0)) = _
    rw [first_flat (by omega)]
  have na : (lS (sumV a b d a' b' d')).1 ≠ 0 := by rw [es]; exact fold_ne _ _ (by show a ≠ 0; omega)
  have da : (lS (sumV a b d a' b' d')).1 ∣ a := by rw [es]; exact fold_a _ _
  have dd : (lS (sumV a b d a' b' d')).2.2 ∣ d := (fold_dvd (sumV a b d a' b' d') (0, 0, 0)).2 (b, d) (by simp [sumV])
  have nd : (lS (sumV a b d a' b' d')).2.2 ≠ 0 := by
    intro h0
    rw [h0] at dd
    have : d = 0 := by simpa using dd
    omega
  obtain ⟨_, e4⟩ := e2 na nd
  have r := hL.red1 (by rw [e1]; exact na)
  have la := Int.le_of_dvd (by omega) da
  have ld := Int.le_of_dvd (by omega) (Int.natAbs_dvd.2 dd)
  have a0 := hH.a0
  unfold laOk latB
  refine decide_eq_true ⟨?_, ?_, ?_, ?_, r.1, r.2⟩
  · rw [e1]; omega
  · rw [e1]; omega
  · rw [e4]; omega
  · rw [e4]; omega
theorem sumV_cells {w : World} {g : Nat} {a b d a' b' d' : Int} (h : ∀ j, j < 8 → w.cell? ⟨g, j, none⟩ = (#[.int .i64 a, .int .i64 0, .int .i64 b, .int .i64 d, .int .i64 a', .int .i64 0, .int .i64 b', .int .i64 d'] : Array Value)[j]?) :
    ∀ k, k < (sumV a b d a' b' d').length → w.cell? ⟨g, k * 2, none⟩ = some (.int .i64 (((sumV a b d a' b' d').getD k (0, 0)).1)) ∧ w.cell? ⟨g, k * 2 + 1, none⟩ = some (.int .i64 (((sumV a b d a' b' d').getD k (0, 0)).2)) := by
  intro k hk
  have hk : k < 4 := hk
  rw [h _ (by omega), h _ (by omega)]
  match k, hk with
  | 0, _ => exact ⟨rfl, rfl⟩
  | 1, _ => exact ⟨rfl, rfl⟩
  | 2, _ => exact ⟨rfl, rfl⟩
  | 3, _ => exact ⟨rfl, rfl⟩
def BasisL (w : World) (T : TypeId) (a b d : Int) (en : Ending) (w' : World) : Prop := ∃ w1, Below w.heap.size w w1 ∧ en = .returned (.slice (some ⟨w1.heap.size, 0, none⟩) 2 2) ∧ w1.alloc (.cells #[.int .i64 a, .int .i64 0, .int .i64 b, .int .i64 d] T) = w'
theorem lbasis_any (a b d : Int) (w : World) :
    Calls Try.prog 83 #[.agg #[.int .i64 a, .int .i64 b, .int .i64 d]] w (BasisL w 97 a b d) := by
  go_enter Try.func83, Try.ntmps83
  go_wp2
  go_ret
  refine ⟨w.alloc (.cells #[.int .i64 a, .int .i64 b, .int .i64 d] 25), ?_, by simp, rfl⟩
  repeat (first | with_reducible exact Below.refl _ _ | with_reducible assumption | ((with_reducible refine blA ?_ ?_); (focus (first | omega | (simp <;> omega)))) | (with_reducible refine blD ?_) | (with_reducible refine blN ?_) | ((with_reducible refine blS ?_ ?_); (focus (first | omega | (simp <;> omega)))) | ((with_reducible refine blT (by assumption) ?_ ?_); (focus (first | omega | (simp <;> omega)))))
theorem laBasis_any (a b d : Int) (w : World) :
    Calls Try.prog 81 #[.agg #[.int .i64 a, .int .i64 b, .int .i64 d]] w (BasisL w 36 a b d) := by
  go_enter Try.func81, Try.ntmps81
  go_wp2
  go_ret
  refine ⟨w.alloc (.cells #[.int .i64 a, .int .i64 b, .int .i64 d] 25), ?_, by simp, rfl⟩
  repeat (first | with_reducible exact Below.refl _ _ | with_reducible assumption | ((with_reducible refine blA ?_ ?_); (focus (first | omega | (simp <;> omega)))) | (with_reducible refine blD ?_) | (with_reducible refine blN ?_) | ((with_reducible refine blS ?_ ?_); (focus (first | omega | (simp <;> omega)))) | ((with_reducible refine blT (by assumption) ?_ ?_); (focus (first | omega | (simp <;> omega)))))
/-- The sum's numbers. -/
def lsB (a b d a' b' d' : Int) : Bool := latB a b d && latB a' b' d'
set_option maxRecDepth 100000 in
set_option maxHeartbeats 2000000 in
theorem implSumOfLattices_any (a b d a' b' d' : Int) (w : World) :
    Calls Try.prog 48 #[.agg #[.int .i64 a, .int .i64 b, .int .i64 d], .agg #[.int .i64 a', .int .i64 b', .int .i64 d']] w fun en w' => en = .returned (.tuple #[.agg #[.int .i64 (iz (lsB a b d a' b' d') (lT (sumV a b d a' b' d')).1), .int .i64 (iz (lsB a b d a' b' d') (lT (sumV a b d a' b' d')).2.1), .int .i64 (iz (lsB a b d a' b' d') (lT (sumV a b d a' b' d')).2.2)], .bool (lsB a b d a' b' d')]) ∧ Below w.heap.size w w' := by
  by_cases c1 : latB a b d = true
  · by_cases c2 : latB a' b' d' = true
    · have h := sum_small c1 c2
      have hk := Lib.hid (sum_ok c1 c2)
      have hs : Hid (lsB a b d a' b' d' = true) := by show _ = _; rw [lsB, c1, c2]; rfl
      go_enter Try.func48, Try.ntmps48
      go_wp2_with (go_at_call 55; refine (isLattice_any _ _ _ _).mono ?_; rintro e w' ⟨rfl, hB⟩; obtain ⟨hC, hF⟩ := bcell hB; have hS := hB.size; (try simp at hS); (try have hSl := Nat.lt_of_succ_le hS); (try have hS0 : w.heap.size < w'.heap.size := by omega); (try have hS1 : w.heap.size + 1 < w'.heap.size := by omega); (try have hS2 : w.heap.size + 1 + 1 < w'.heap.size := by omega); (try have hS3 : w.heap.size + 1 + 1 + 1 < w'.heap.size := by omega))
      refine region_mix 8 [0, 2] [(false, 1), (false, 3), (false, 4), (false, 5), (true, 6), (true, 7)] (by kernel_rfl) (by kernel_rfl) (by kernel_rfl) ?_
      apply Exists.intro
      refine ⟨fun w0 hw0 => ?_, ?_⟩
      · obtain ⟨hC0, hF0⟩ := bcell hw0
        have hS0 := hw0.size
        (try simp at hS0)
        (try have hS0_w0 : w.heap.size < w0.heap.size := by omega)
        (try have hS0_w1 : w.heap.size + 1 < w0.heap.size := by omega)
        (try have hS0_w2 : w.heap.size + 1 + 1 < w0.heap.size := by omega)
        (try have hS0_w3 : w.heap.size + 1 + 1 + 1 < w0.heap.size := by omega)
        (try have hS0_w4 : w.heap.size + 1 + 1 + 1 + 1 < w0.heap.size := by omega)
        (try have hL0_w0 : w.heap.size ≤ w0.heap.size := by omega)
        (try have hL0_w1 : w.heap.size + 1 ≤ w0.heap.size := by omega)
        (try have hL0_w2 : w.heap.size + 1 + 1 ≤ w0.heap.size := by omega)
        (try have hL0_w3 : w.heap.size + 1 + 1 + 1 ≤ w0.heap.size := by omega)
        (try have hL0_w : w.heap.size ≤ w0.heap.size + 1 := by omega)
        (try have hM0_1 : w.heap.size < w0.heap.size + 1 := by omega)
        (try have hM0_2 : w.heap.size < w0.heap.size + 1 + 1 := by omega)
        (try have hM0_3 : w.heap.size < w0.heap.size + 1 + 1 + 1 := by omega)
        simp only [List.filterMap_cons, List.filterMap_nil, List.getElem?_cons_zero, List.getElem?_cons_succ]
        show wpQuiet _ _ _ _ [_, _] _
        repeat (first | go_big_quiet_skip | (go_big_quiet_want; go_big_quiet_op; first | go_big_quiet_on | (apply Exists.intro; refine ⟨fun _ => ?_, ?_⟩; (focus (fail)); go_big_quiet_on)))
        refine wpQuiet_nil ?_
        rfl
      intro W hW hWz
      simp only [List.filterMap_cons, List.filterMap_nil, List.getElem?_cons_zero, List.getElem?_cons_succ, Option.map_some, List.drop_succ_cons, List.drop_zero]
      show effW _ _ _ _ [(false, _), (false, _), (false, _), (false, _), (true, _), (true, _)] _ _
      refine effM_of fun wa hBa => ?_
      have hza := hBa.size
      try simp at hza
      go_wp2_with fail
      refine (lbasis_any a b d _).mono ?_
      rintro ex wb ⟨w3, hB3, rfl, rfl⟩
      have hz3 := hB3.size
      go_wp2
      refine effQ_of rfl (by repeat (first | with_reducible exact Below.refl _ _ | with_reducible assumption | ((with_reducible refine blA ?_ ?_); (focus (first | omega | (simp <;> omega)))) | (with_reducible refine blD ?_) | (with_reducible refine blN ?_) | ((with_reducible refine blS ?_ ?_); (focus (first | omega | (simp <;> omega)))) | ((with_reducible refine blT (by assumption) ?_ ?_); (focus (first | omega | (simp <;> omega)))))) ?_
      refine effM_of fun wc hBc => ?_
      have hzc := hBc.size
      try simp at hzc
      have hr1 : wc.heap[w3.heap.size]? = some (.cells #[.int .i64 a, .int .i64 0, .int .i64 b, .int .i64 d] 97 (0, 0)) := by rw [hBc.block _ (by simp), heap_alloc_new]
      go_wp2_with fail
      refine (lbasis_any a' b' d' _).mono ?_
      rintro ex wd ⟨w4, hB4, rfl, rfl⟩
      have hz4 := hB4.size
      go_wp2
      refine effQ_of rfl (by repeat (first | with_reducible exact Below.refl _ _ | with_reducible assumption | ((with_reducible refine blA ?_ ?_); (focus (first | omega | (simp <;> omega)))) | (with_reducible refine blD ?_) | (with_reducible refine blN ?_) | ((with_reducible refine blS ?_ ?_); (focus (first | omega | (simp <;> omega)))) | ((with_reducible refine blT (by assumption) ?_ ?_); (focus (first | omega | (simp <;> omega)))))) ?_
      refine effM_of fun we hBe => ?_
      have hze := hBe.size
      try simp at hze
      have hr2 : we.heap[w4.heap.size]? = some (.cells #[.int .i64 a', .int .i64 0, .int .i64 b', .int .i64 d'] 97 (0, 0)) := by rw [hBe.block _ (by simp), heap_alloc_new]
      have hr3 : we.heap[w3.heap.size]? = some (.cells #[.int .i64 a, .int .i64 0, .int .i64 b, .int .i64 d] 97 (0, 0)) := by rw [hBe.block _ (by simp; omega), heap_alloc_old _ _ (by omega), hB4.block _ (by omega), hr1]
      refine append22 we rfl _ _ _ rfl 97 (by kernel_rfl) (by kernel_rfl) w3.heap.size w4.heap.size _ _ _ _ _ _ _ _ (by rfl) (by rfl) hr3 hr2 fun g cap wf hBf hgf hcf => ?_
      have hzf := hBf.size
      go_wp2
      refine effQ_of rfl (by repeat (first | with_reducible exact Below.refl _ _ | with_reducible assumption | ((with_reducible refine blA ?_ ?_); (focus (first | omega | (simp <;> omega)))) | (with_reducible refine blD ?_) | (with_reducible refine blN ?_) | ((with_reducible refine blS ?_ ?_); (focus (first | omega | (simp <;> omega)))) | ((with_reducible refine blT (by assumption) ?_ ?_); (focus (first | omega | (simp <;> omega)))))) ?_
      refine effM_of fun wg hBg => ?_
      have hzg := hBg.size
      go_wp2_with fail
      refine (latticeOf_any h g cap _ (by simp [sumV]) (by omega) (sumV_cells fun j hj => by rw [bG hBg hgf]; exact hcf j hj)).mono ?_
      rw [hk.out]
      rintro ex wi ⟨rfl, hBi⟩
      have hzi := hBi.size
      go_wp2
      refine effQ_of rfl (by repeat (first | with_reducible exact Below.refl _ _ | with_reducible assumption | ((with_reducible refine blA ?_ ?_); (focus (first | omega | (simp <;> omega)))) | (with_reducible refine blD ?_) | (with_reducible refine blN ?_) | ((with_reducible refine blS ?_ ?_); (focus (first | omega | (simp <;> omega)))) | ((with_reducible refine blT (by assumption) ?_ ?_); (focus (first | omega | (simp <;> omega)))))) ?_
      refine effQuiet (by kernel_rfl) ?_
      apply Exists.intro
      refine ⟨fun w0 hw0 => ?_, ?_⟩
      · repeat (first | go_big_quiet_skip | (go_big_quiet_want; go_big_quiet_op; first | go_big_quiet_on | (apply Exists.intro; refine ⟨fun _ => ?_, ?_⟩; (focus (fail)); go_big_quiet_on)))
        refine wpQuiet_nil ?_
        rfl
      refine effQuiet (by kernel_rfl) ?_
      apply Exists.intro
      refine ⟨fun w0 hw0 => ?_, ?_⟩
      · repeat (first | go_big_quiet_skip | (go_big_quiet_want; go_big_quiet_op; first | go_big_quiet_on | (apply Exists.intro; refine ⟨fun _ => ?_, ?_⟩; (focus (fail)); go_big_quiet_on)))
        refine wpQuiet_nil ?_
        rfl
      intro wl hwl
      have hBl := past_below hwl
      clear hwl
      have hzl := hBl.size
      have hzW := hW.size
      try simp at hzW
      have hRl : ∀ o, wl.cell? ⟨w.heap.size + 1 + 1, o, none⟩ = (#[.int .i64 0, .int .i64 0, .int .i64 0] : Array Value)[o]? := by (intro o; (repeat (first | ((with_reducible refine (cell_alloc_old _ _ _ _ ?_).trans ?_); (focus (first | omega | (simp <;> omega)))) | ((with_reducible refine (bC (by assumption) ?_).trans ?_); (focus (first | omega | (simp <;> omega)))) | ((with_reducible refine (bG (by assumption) ?_).trans ?_); (focus (first | omega | (simp <;> omega)))))); simp [go_sem])
      have hFl : ∀ o, wl.frozen? ⟨w.heap.size + 1 + 1, o, none⟩ = false := by (intro o; (repeat (first | ((with_reducible refine (frozen_alloc_old _ _ _ _ ?_).trans ?_); (focus (first | omega | (simp <;> omega)))) | ((with_reducible refine (fG (by assumption) ?_).trans ?_); (focus (first | omega | (simp <;> omega)))))); simp [go_sem])
      have hBW : Below w.heap.size w wl := by repeat (first | with_reducible exact Below.refl _ _ | with_reducible assumption | ((with_reducible refine blA ?_ ?_); (focus (first | omega | (simp <;> omega)))) | (with_reducible refine blD ?_) | (with_reducible refine blN ?_) | ((with_reducible refine blS ?_ ?_); (focus (first | omega | (simp <;> omega)))) | ((with_reducible refine blT (by assumption) ?_ ?_); (focus (first | omega | (simp <;> omega)))))
      clear hBl hBi hBg hBf hBe hB4 hBc hB3 hBa hW
      go_wp2
      refine bodyPost_ret (v := .tuple #[.agg #[.int .i64 ((lT (sumV a b d a' b' d')).1), .int .i64 ((lT (sumV a b d a' b' d')).2.1), .int .i64 ((lT (sumV a b d a' b' d')).2.2)], .bool true]) (by go_light; (try clear hC14); (try clear hF14); (try clear hB14); (try clear hC13); (try clear hF13); (try clear hB13); (try clear hC12); (try clear hF12); (try clear hB12); (try clear hC11); (try clear hF11); (try clear hB11); (try clear hC10); (try clear hF10); (try clear hB10); (try clear hC9); (try clear hF9); (try clear hB9); (try clear hC8); (try clear hF8); (try clear hB8); (try clear hC7); (try clear hF7); (try clear hB7); (try clear hC6); (try clear hF6); (try clear hB6); (try clear hC5); (try clear hF5); (try clear hB5); (try clear hC4); (try clear hF4); (try clear hB4); (try clear hC3); (try clear hF3); (try clear hB3); (try clear hC2); (try clear hF2); (try clear hB2); (try clear hC1); (try clear hF1); (try clear hB1); simp [results, Try.results48, go_sem, hRl, iz]) rfl ⟨by go_light; rw [hs.out]; rfl, ?_⟩
      repeat (first | with_reducible exact Below.refl _ _ | with_reducible assumption | ((with_reducible refine blA ?_ ?_); (focus (first | omega | (simp <;> omega)))) | (with_reducible refine blD ?_) | (with_reducible refine blN ?_) | ((with_reducible refine blS ?_ ?_); (focus (first | omega | (simp <;> omega)))) | ((with_reducible refine blT (by assumption) ?_ ?_); (focus (first | omega | (simp <;> omega)))))
    · have c2' : latB a' b' d' = false := by simpa using c2
      have hs : Hid (lsB a b d a' b' d' = false) := by show _ = _; rw [lsB, c2', Bool.and_false]
      clear c2
      go_enter Try.func48, Try.ntmps48
      go_wp2_with (go_at_call 55; refine (isLattice_any _ _ _ _).mono ?_; rintro e w' ⟨rfl, hB⟩; obtain ⟨hC, hF⟩ := bcell hB; have hS := hB.size; (try simp at hS); (try have hSl := Nat.lt_of_succ_le hS); (try have hS0 : w.heap.size < w'.heap.size := by omega); (try have hS1 : w.heap.size + 1 < w'.heap.size := by omega); (try have hS2 : w.heap.size + 1 + 1 < w'.heap.size := by omega); (try have hS3 : w.heap.size + 1 + 1 + 1 < w'.heap.size := by omega))
      (refine bodyPost_ret (v := .tuple #[.agg #[.int .i64 0, .int .i64 0, .int .i64 0], .bool false]) ?_ rfl ⟨?_, ?_⟩; (focus (go_light; first | (simp [results, Try.results48, go_sem, *]; done) | (simp (disch := first | omega | (simp <;> omega) | (refine isSome_of ?_ ?_; (focus ((repeat (first | ((with_reducible refine (cell_alloc_old _ _ _ _ ?_).trans ?_); (focus (first | omega | (simp <;> omega)))) | ((with_reducible refine (bG (by assumption) ?_).trans ?_); (focus (first | omega | (simp <;> omega)))))); exact rfl)); simp [go_sem]) | fail) [results, Try.results48, go_sem, *]; done))); (focus (go_light; rw [hs.out]; rfl)); repeat (first | with_reducible exact Below.refl _ _ | with_reducible assumption | ((with_reducible refine blA ?_ ?_); (focus (first | omega | (simp <;> omega)))) | (with_reducible refine blD ?_) | (with_reducible refine blN ?_) | ((with_reducible refine blS ?_ ?_); (focus (first | omega | (simp <;> omega)))) | ((with_reducible refine blT (by assumption) ?_ ?_); (focus (first | omega | (simp <;> omega))))))
  · have c1' : latB a b d = false := by simpa using c1
    have hs : Hid (lsB a b d a' b' d' = false) := by show _ = _; rw [lsB, c1', Bool.false_and]
    clear c1
    go_enter Try.func48, Try.ntmps48
    go_wp2_with (go_at_call 55; refine (isLattice_any _ _ _ _).mono ?_; rintro e w' ⟨rfl, hB⟩; obtain ⟨hC, hF⟩ := bcell hB; have hS := hB.size; (try simp at hS); (try have hSl := Nat.lt_of_succ_le hS); (try have hS0 : w.heap.size < w'.heap.size := by omega); (try have hS1 : w.heap.size + 1 < w'.heap.size := by omega); (try have hS2 : w.heap.size + 1 + 1 < w'.heap.size := by omega); (try have hS3 : w.heap.size + 1 + 1 + 1 < w'.heap.size := by omega))
    (refine bodyPost_ret (v := .tuple #[.agg #[.int .i64 0, .int .i64 0, .int .i64 0], .bool false]) ?_ rfl ⟨?_, ?_⟩; (focus (go_light; first | (simp [results, Try.results48, go_sem, *]; done) | (simp (disch := first | omega | (simp <;> omega) | (refine isSome_of ?_ ?_; (focus ((repeat (first | ((with_reducible refine (cell_alloc_old _ _ _ _ ?_).trans ?_); (focus (first | omega | (simp <;> omega)))) | ((with_reducible refine (bG (by assumption) ?_).trans ?_); (focus (first | omega | (simp <;> omega)))))); exact rfl)); simp [go_sem]) | fail) [results, Try.results48, go_sem, *]; done))); (focus (go_light; rw [hs.out]; rfl)); repeat (first | with_reducible exact Below.refl _ _ | with_reducible assumption | ((with_reducible refine blA ?_ ?_); (focus (first | omega | (simp <;> omega)))) | (with_reducible refine blD ?_) | (with_reducible refine blN ?_) | ((with_reducible refine blS ?_ ?_); (focus (first | omega | (simp <;> omega)))) | ((with_reducible refine blT (by assumption) ?_ ?_); (focus (first | omega | (simp <;> omega))))))
set_option maxRecDepth 100000 in
set_option maxHeartbeats 2000000 in
theorem specSumOfLattices_any (a b d a' b' d' : Int) (w : World) (ha : I64 a) (ha' : I64 a') :
    Calls Try.prog 47 #[.agg #[.int .i64 a, .int .i64 b, .int .i64 d], .agg #[.int .i64 a', .int .i64 b', .int .i64 d']] w fun en w' => en = .returned (.tuple #[.agg #[.int .i64 (iz (lsB a b d a' b' d') (lT (sumV a b d a' b' d')).1), .int .i64 (iz (lsB a b d a' b' d') (lT (sumV a b d a' b' d')).2.1), .int .i64 (iz (lsB a b d a' b' d') (lT (sumV a b d a' b' d')).2.2)], .bool (lsB a b d a' b' d')]) ∧ Below w.heap.size w w' := by
  by_cases c1 : latB a b d = true
  · by_cases c2 : latB a' b' d' = true
    · have h := sum_small c1 c2
      have hs : Hid (lsB a b d a' b' d' = true) := by show _ = _; rw [lsB, c1, c2]; rfl
      go_enter Try.func47, Try.ntmps47
      go_wp2_with (go_at_call 54; refine (laGood_any _ _ _ _ (by assumption)).mono ?_; rintro e w' ⟨rfl, hB⟩; obtain ⟨hC, hF⟩ := bcell hB; have hS := hB.size; (try simp at hS); (try have hSl := Nat.lt_of_succ_le hS); (try have hS0 : w.heap.size < w'.heap.size := by omega); (try have hS1 : w.heap.size + 1 < w'.heap.size := by omega); (try have hS2 : w.heap.size + 1 + 1 < w'.heap.size := by omega); (try have hS3 : w.heap.size + 1 + 1 + 1 < w'.heap.size := by omega))
      refine region_mix 6 [0, 2] [(false, 1), (false, 3), (false, 4), (false, 5)] (by kernel_rfl) (by kernel_rfl) (by kernel_rfl) ?_
      apply Exists.intro
      refine ⟨fun w0 hw0 => ?_, ?_⟩
      · obtain ⟨hC0, hF0⟩ := bcell hw0
        have hS0 := hw0.size
        (try simp at hS0)
        (try have hS0_w0 : w.heap.size < w0.heap.size := by omega)
        (try have hS0_w1 : w.heap.size + 1 < w0.heap.size := by omega)
        (try have hS0_w2 : w.heap.size + 1 + 1 < w0.heap.size := by omega)
        (try have hS0_w3 : w.heap.size + 1 + 1 + 1 < w0.heap.size := by omega)
        (try have hS0_w4 : w.heap.size + 1 + 1 + 1 + 1 < w0.heap.size := by omega)
        (try have hL0_w0 : w.heap.size ≤ w0.heap.size := by omega)
        (try have hL0_w1 : w.heap.size + 1 ≤ w0.heap.size := by omega)
        (try have hL0_w2 : w.heap.size + 1 + 1 ≤ w0.heap.size := by omega)
        (try have hL0_w3 : w.heap.size + 1 + 1 + 1 ≤ w0.heap.size := by omega)
        (try have hL0_w : w.heap.size ≤ w0.heap.size + 1 := by omega)
        (try have hM0_1 : w.heap.size < w0.heap.size + 1 := by omega)
        (try have hM0_2 : w.heap.size < w0.heap.size + 1 + 1 := by omega)
        (try have hM0_3 : w.heap.size < w0.heap.size + 1 + 1 + 1 := by omega)
        simp only [List.filterMap_cons, List.filterMap_nil, List.getElem?_cons_zero, List.getElem?_cons_succ]
        show wpQuiet _ _ _ _ [_, _] _
        repeat (first | go_big_quiet_skip | (go_big_quiet_want; go_big_quiet_op; first | go_big_quiet_on | (apply Exists.intro; refine ⟨fun _ => ?_, ?_⟩; (focus (fail)); go_big_quiet_on)))
        refine wpQuiet_nil ?_
        rfl
      intro W hW hWz
      simp only [List.filterMap_cons, List.filterMap_nil, List.getElem?_cons_zero, List.getElem?_cons_succ, Option.map_some, List.drop_succ_cons, List.drop_zero]
      show effW _ _ _ _ [(false, _), (false, _), (false, _), (false, _)] _ _
      refine effM_of fun wa hBa => ?_
      have hza := hBa.size
      try simp at hza
      go_wp2_with fail
      refine (laBasis_any a b d _).mono ?_
      rintro ex wb ⟨w3, hB3, rfl, rfl⟩
      have hz3 := hB3.size
      go_wp2
      refine effQ_of rfl (by repeat (first | with_reducible exact Below.refl _ _ | with_reducible assumption | ((with_reducible refine blA ?_ ?_); (focus (first | omega | (simp <;> omega)))) | (with_reducible refine blD ?_) | (with_reducible refine blN ?_) | ((with_reducible refine blS ?_ ?_); (focus (first | omega | (simp <;> omega)))) | ((with_reducible refine blT (by assumption) ?_ ?_); (focus (first | omega | (simp <;> omega)))))) ?_
      refine effM_of fun wc hBc => ?_
      have hzc := hBc.size
      try simp at hzc
      have hr1 : wc.heap[w3.heap.size]? = some (.cells #[.int .i64 a, .int .i64 0, .int .i64 b, .int .i64 d] 36 (0, 0)) := by rw [hBc.block _ (by simp), heap_alloc_new]
      go_wp2_with fail
      refine (laBasis_any a' b' d' _).mono ?_
      rintro ex wd ⟨w4, hB4, rfl, rfl⟩
      have hz4 := hB4.size
      go_wp2
      refine effQ_of rfl (by repeat (first | with_reducible exact Below.refl _ _ | with_reducible assumption | ((with_reducible refine blA ?_ ?_); (focus (first | omega | (simp <;> omega)))) | (with_reducible refine blD ?_) | (with_reducible refine blN ?_) | ((with_reducible refine blS ?_ ?_); (focus (first | omega | (simp <;> omega)))) | ((with_reducible refine blT (by assumption) ?_ ?_); (focus (first | omega | (simp <;> omega)))))) ?_
      refine effM_of fun we hBe => ?_
      have hze := hBe.size
      try simp at hze
      have hr2 : we.heap[w4.heap.size]? = some (.cells #[.int .i64 a', .int .i64 0, .int .i64 b', .int .i64 d'] 36 (0, 0)) := by rw [hBe.block _ (by simp), heap_alloc_new]
      have hr3 : we.heap[w3.heap.size]? = some (.cells #[.int .i64 a, .int .i64 0, .int .i64 b, .int .i64 d] 36 (0, 0)) := by rw [hBe.block _ (by simp; omega), heap_alloc_old _ _ (by omega), hB4.block _ (by omega), hr1]
      refine append22 we rfl _ _ _ rfl 36 (by kernel_rfl) (by kernel_rfl) w3.heap.size w4.heap.size _ _ _ _ _ _ _ _ (by rfl) (by rfl) hr3 hr2 fun g cap wf hBf hgf hcf => ?_
      have hzf := hBf.size
      go_wp2
      refine effQ_of rfl (by repeat (first | with_reducible exact Below.refl _ _ | with_reducible assumption | ((with_reducible refine blA ?_ ?_); (focus (first | omega | (simp <;> omega)))) | (with_reducible refine blD ?_) | (with_reducible refine blN ?_) | ((with_reducible refine blS ?_ ?_); (focus (first | omega | (simp <;> omega)))) | ((with_reducible refine blT (by assumption) ?_ ?_); (focus (first | omega | (simp <;> omega)))))) ?_
      refine effM_of fun wg hBg => ?_
      have hzg := hBg.size
      go_wp2_with fail
      refine (laHermite_any (sumV a b d a' b' d') g cap _ (by simp [sumV]) (by omega) (sumV_cells fun j hj => by rw [bG hBg hgf]; exact hcf j hj) (fitL h)).mono ?_
      rintro ex wi ⟨rfl, hBi⟩
      have hzi := hBi.size
      go_wp2
      refine effQ_of rfl (by repeat (first | with_reducible exact Below.refl _ _ | with_reducible assumption | ((with_reducible refine blA ?_ ?_); (focus (first | omega | (simp <;> omega)))) | (with_reducible refine blD ?_) | (with_reducible refine blN ?_) | ((with_reducible refine blS ?_ ?_); (focus (first | omega | (simp <;> omega)))) | ((with_reducible refine blT (by assumption) ?_ ?_); (focus (first | omega | (simp <;> omega)))))) ?_
      intro wl hwl
      have hBl := past_below hwl
      clear hwl
      have hzl := hBl.size
      have hzW := hW.size
      try simp at hzW
      have hRl : ∀ o, wl.cell? ⟨w.heap.size + 1 + 1, o, none⟩ = (#[.int .i64 0, .int .i64 0, .int .i64 0] : Array Value)[o]? := by (intro o; (repeat (first | ((with_reducible refine (cell_alloc_old _ _ _ _ ?_).trans ?_); (focus (first | omega | (simp <;> omega)))) | ((with_reducible refine (bC (by assumption) ?_).trans ?_); (focus (first | omega | (simp <;> omega)))) | ((with_reducible refine (bG (by assumption) ?_).trans ?_); (focus (first | omega | (simp <;> omega)))))); simp [go_sem])
      have hFl : ∀ o, wl.frozen? ⟨w.heap.size + 1 + 1, o, none⟩ = false := by (intro o; (repeat (first | ((with_reducible refine (frozen_alloc_old _ _ _ _ ?_).trans ?_); (focus (first | omega | (simp <;> omega)))) | ((with_reducible refine (fG (by assumption) ?_).trans ?_); (focus (first | omega | (simp <;> omega)))))); simp [go_sem])
      have hBW : Below w.heap.size w wl := by repeat (first | with_reducible exact Below.refl _ _ | with_reducible assumption | ((with_reducible refine blA ?_ ?_); (focus (first | omega | (simp <;> omega)))) | (with_reducible refine blD ?_) | (with_reducible refine blN ?_) | ((with_reducible refine blS ?_ ?_); (focus (first | omega | (simp <;> omega)))) | ((with_reducible refine blT (by assumption) ?_ ?_); (focus (first | omega | (simp <;> omega)))))
      clear hBl hBi hBg hBf hBe hB4 hBc hB3 hBa hW
      go_wp2
      refine bodyPost_ret (v := .tuple #[.agg #[.int .i64 ((lT (sumV a b d a' b' d')).1), .int .i64 ((lT (sumV a b d a' b' d')).2.1), .int .i64 ((lT (sumV a b d a' b' d')).2.2)], .bool true]) (by go_light; (try clear hC14); (try clear hF14); (try clear hB14); (try clear hC13); (try clear hF13); (try clear hB13); (try clear hC12); (try clear hF12); (try clear hB12); (try clear hC11); (try clear hF11); (try clear hB11); (try clear hC10); (try clear hF10); (try clear hB10); (try clear hC9); (try clear hF9); (try clear hB9); (try clear hC8); (try clear hF8); (try clear hB8); (try clear hC7); (try clear hF7); (try clear hB7); (try clear hC6); (try clear hF6); (try clear hB6); (try clear hC5); (try clear hF5); (try clear hB5); (try clear hC4); (try clear hF4); (try clear hB4); (try clear hC3); (try clear hF3); (try clear hB3); (try clear hC2); (try clear hF2); (try clear hB2); (try clear hC1); (try clear hF1); (try clear hB1); simp [results, Try.results47, go_sem, hRl, lT]) rfl ⟨by go_light; rw [hs.out]; rfl, ?_⟩
      repeat (first | with_reducible exact Below.refl _ _ | with_reducible assumption | ((with_reducible refine blA ?_ ?_); (focus (first | omega | (simp <;> omega)))) | (with_reducible refine blD ?_) | (with_reducible refine blN ?_) | ((with_reducible refine blS ?_ ?_); (focus (first | omega | (simp <;> omega)))) | ((with_reducible refine blT (by assumption) ?_ ?_); (focus (first | omega | (simp <;> omega)))))
    · have c2' : latB a' b' d' = false := by simpa using c2
      have hs : Hid (lsB a b d a' b' d' = false) := by show _ = _; rw [lsB, c2', Bool.and_false]
      clear c2
      go_enter Try.func47, Try.ntmps47
      go_wp2_with (go_at_call 54; refine (laGood_any _ _ _ _ (by assumption)).mono ?_; rintro e w' ⟨rfl, hB⟩; obtain ⟨hC, hF⟩ := bcell hB; have hS := hB.size; (try simp at hS); (try have hSl := Nat.lt_of_succ_le hS); (try have hS0 : w.heap.size < w'.heap.size := by omega); (try have hS1 : w.heap.size + 1 < w'.heap.size := by omega); (try have hS2 : w.heap.size + 1 + 1 < w'.heap.size := by omega); (try have hS3 : w.heap.size + 1 + 1 + 1 < w'.heap.size := by omega))
      (refine bodyPost_ret (v := .tuple #[.agg #[.int .i64 0, .int .i64 0, .int .i64 0], .bool false]) ?_ rfl ⟨?_, ?_⟩; (focus (go_light; first | (simp [results, Try.results47, go_sem, *]; done) | (simp (disch := first | omega | (simp <;> omega) | (refine isSome_of ?_ ?_; (focus ((repeat (first | ((with_reducible refine (cell_alloc_old _ _ _ _ ?_).trans ?_); (focus (first | omega | (simp <;> omega)))) | ((with_reducible refine (bG (by assumption) ?_).trans ?_); (focus (first | omega | (simp <;> omega)))))); exact rfl)); simp [go_sem]) | fail) [results, Try.results47, go_sem, *]; done))); (focus (go_light; rw [hs.out]; rfl)); repeat (first | with_reducible exact Below.refl _ _ | with_reducible assumption | ((with_reducible refine blA ?_ ?_); (focus (first | omega | (simp <;> omega)))) | (with_reducible refine blD ?_) | (with_reducible refine blN ?_) | ((with_reducible refine blS ?_ ?_); (focus (first | omega | (simp <;> omega)))) | ((with_reducible refine blT (by assumption) ?_ ?_); (focus (first | omega | (simp <;> omega))))))
  · have c1' : latB a b d = false := by simpa using c1
    have hs : Hid (lsB a b d a' b' d' = false) := by show _ = _; rw [lsB, c1', Bool.false_and]
    clear c1
    go_enter Try.func47, Try.ntmps47
    go_wp2_with (go_at_call 54; refine (laGood_any _ _ _ _ (by assumption)).mono ?_; rintro e w' ⟨rfl, hB⟩; obtain ⟨hC, hF⟩ := bcell hB; have hS := hB.size; (try simp at hS); (try have hSl := Nat.lt_of_succ_le hS); (try have hS0 : w.heap.size < w'.heap.size := by omega); (try have hS1 : w.heap.size + 1 < w'.heap.size := by omega); (try have hS2 : w.heap.size + 1 + 1 < w'.heap.size := by omega); (try have hS3 : w.heap.size + 1 + 1 + 1 < w'.heap.size := by omega))
    (refine bodyPost_ret (v := .tuple #[.agg #[.int .i64 0, .int .i64 0, .int .i64 0], .bool false]) ?_ rfl ⟨?_, ?_⟩; (focus (go_light; first | (simp [results, Try.results47, go_sem, *]; done) | (simp (disch := first | omega | (simp <;> omega) | (refine isSome_of ?_ ?_; (focus ((repeat (first | ((with_reducible refine (cell_alloc_old _ _ _ _ ?_).trans ?_); (focus (first | omega | (simp <;> omega)))) | ((with_reducible refine (bG (by assumption) ?_).trans ?_); (focus (first | omega | (simp <;> omega)))))); exact rfl)); simp [go_sem]) | fail) [results, Try.results47, go_sem, *]; done))); (focus (go_light; rw [hs.out]; rfl)); repeat (first | with_reducible exact Below.refl _ _ | with_reducible assumption | ((with_reducible refine blA ?_ ?_); (focus (first | omega | (simp <;> omega)))) | (with_reducible refine blD ?_) | (with_reducible refine blN ?_) | ((with_reducible refine blS ?_ ?_); (focus (first | omega | (simp <;> omega)))) | ((with_reducible refine blT (by assumption) ?_ ?_); (focus (first | omega | (simp <;> omega))))))
theorem eqLattice_same (a b d : Int) (w : World) :
    Calls Try.prog 46 #[.agg #[.int .i64 a, .int .i64 b, .int .i64 d], .agg #[.int .i64 a, .int .i64 b, .int .i64 d]] w fun en w' => en = .returned (.bool true) ∧ Below w.heap.size w w' := by
  go_enter Try.func46, Try.ntmps46
  go_wp2
  go_ret
  refine ⟨rfl, ?_⟩
  repeat (first | with_reducible exact Below.refl _ _ | with_reducible assumption | ((with_reducible refine blA ?_ ?_); (focus (first | omega | (simp <;> omega)))) | (with_reducible refine blD ?_) | (with_reducible refine blN ?_) | ((with_reducible refine blS ?_ ?_); (focus (first | omega | (simp <;> omega)))) | ((with_reducible refine blT (by assumption) ?_ ?_); (focus (first | omega | (simp <;> omega)))))
set_option maxRecDepth 100000 in
set_option maxHeartbeats 2000000 in
theorem law_sumOfLattices (a b d a' b' d' : Int) (w : World) (ha : I64 a) (_ : I64 b) (_ : I64 d) (ha' : I64 a') (_ : I64 b') (_ : I64 d') :
    Calls Try.prog 13 #[.agg #[.int .i64 a, .int .i64 b, .int .i64 d], .agg #[.int .i64 a', .int .i64 b', .int .i64 d']] w fun en w' => en = .returned (.bool true) ∧ Below w.heap.size w w' := by
  go_enter Try.func13, Try.ntmps13
  go_wp2_with fail
  refine region_mixed 8 (by kernel_rfl) (by kernel_rfl) (by kernel_rfl) ?_
  apply Exists.intro
  refine ⟨fun w0 hw0 => ?_, ?_⟩
  · obtain ⟨hC0, hF0⟩ := bcell hw0
    have hS0 := hw0.size
    (try simp at hS0)
    (try have hS0_w0 : w.heap.size < w0.heap.size := by omega)
    (try have hS0_w1 : w.heap.size + 1 < w0.heap.size := by omega)
    (try have hS0_w2 : w.heap.size + 1 + 1 < w0.heap.size := by omega)
    (try have hS0_w3 : w.heap.size + 1 + 1 + 1 < w0.heap.size := by omega)
    (try have hS0_w4 : w.heap.size + 1 + 1 + 1 + 1 < w0.heap.size := by omega)
    (try have hL0_w0 : w.heap.size ≤ w0.heap.size := by omega)
    (try have hL0_w1 : w.heap.size + 1 ≤ w0.heap.size := by omega)
    (try have hL0_w2 : w.heap.size + 1 + 1 ≤ w0.heap.size := by omega)
    (try have hL0_w3 : w.heap.size + 1 + 1 + 1 ≤ w0.heap.size := by omega)
    (try have hL0_w : w.heap.size ≤ w0.heap.size + 1 := by omega)
    (try have hM0_1 : w.heap.size < w0.heap.size + 1 := by omega)
    (try have hM0_2 : w.heap.size < w0.heap.size + 1 + 1 := by omega)
    (try have hM0_3 : w.heap.size < w0.heap.size + 1 + 1 + 1 := by omega)
    simp only [List.take_succ_cons, List.take_zero]
    repeat (first | go_big_quiet_skip | (go_big_quiet_want; go_big_quiet_op; first | go_big_quiet_on | (apply Exists.intro; refine ⟨fun _ => ?_, ?_⟩; (focus (first | (go_at_call 16; exact past_of (toLattice_any _ _ _ _)) | (go_at_call 47; exact past_of (specSumOfLattices_any _ _ _ _ _ _ _ ha ha')))); go_big_quiet_on)))
    refine wpQuiet_nil ?_
    rfl
  intro W hW hWz
  simp only [List.drop_succ_cons, List.drop_zero]
  refine eff_new #[.int .i64 0, .int .i64 0, .int .i64 0] 25 [.int .i64 (iz (lsB a b d a' b' d') (lT (sumV a b d a' b' d')).1), .int .i64 (iz (lsB a b d a' b' d') (lT (sumV a b d a' b' d')).2.1), .int .i64 (iz (lsB a b d a' b' d') (lT (sumV a b d a' b' d')).2.2)] rfl rfl rfl rfl (fun _ => by simp [go_sem]) (cl_refl _) (fun wa wb hb => ?_) (fun w1 hV1 => ?_)
  · obtain ⟨hc, hf⟩ := bnew hb
    refine ⟨.skip, ?_, Or.inl rfl⟩
    simp [go_sem, setAll, Act.put, hc, hf]
  have hB1 := hW.trans (hV1.mono hW.size)
  obtain ⟨hC1, hF1⟩ := bcell hB1
  have hS1 := hB1.size
  (try simp at hS1)
  (try have hS1_w0 : w.heap.size < w1.heap.size := by omega)
  (try have hS1_w1 : w.heap.size + 1 < w1.heap.size := by omega)
  (try have hS1_w2 : w.heap.size + 1 + 1 < w1.heap.size := by omega)
  (try have hS1_w3 : w.heap.size + 1 + 1 + 1 < w1.heap.size := by omega)
  (try have hS1_w4 : w.heap.size + 1 + 1 + 1 + 1 < w1.heap.size := by omega)
  (try have hL1_w0 : w.heap.size ≤ w1.heap.size := by omega)
  (try have hL1_w1 : w.heap.size + 1 ≤ w1.heap.size := by omega)
  (try have hL1_w2 : w.heap.size + 1 + 1 ≤ w1.heap.size := by omega)
  (try have hL1_w3 : w.heap.size + 1 + 1 + 1 ≤ w1.heap.size := by omega)
  (try have hL1_w : w.heap.size ≤ w1.heap.size + 1 := by omega)
  (try have hM1_1 : w.heap.size < w1.heap.size + 1 := by omega)
  (try have hM1_2 : w.heap.size < w1.heap.size + 1 + 1 := by omega)
  (try have hM1_3 : w.heap.size < w1.heap.size + 1 + 1 + 1 := by omega)
  have hK : Cl W (w1.alloc (.cells #[.int .i64 (iz (lsB a b d a' b' d') (lT (sumV a b d a' b' d')).1), .int .i64 (iz (lsB a b d a' b' d') (lT (sumV a b d a' b' d')).2.1), .int .i64 (iz (lsB a b d a' b' d') (lT (sumV a b d a' b' d')).2.2)] 25)) := (cl_of hV1).alloc _
  refine eff_set _ rfl rfl hK ?_
  clear hK
  intro w2 hV2
  have hB2 := past_below hV2
  clear hV1 hV2 hW hWz
  obtain ⟨hC2, hF2⟩ := bcell hB2
  have hS2 := hB2.size
  (try simp at hS2)
  (try have hS2_w0 : w.heap.size < w2.heap.size := by omega)
  (try have hS2_w1 : w.heap.size + 1 < w2.heap.size := by omega)
  (try have hS2_w2 : w.heap.size + 1 + 1 < w2.heap.size := by omega)
  (try have hS2_w3 : w.heap.size + 1 + 1 + 1 < w2.heap.size := by omega)
  (try have hS2_w4 : w.heap.size + 1 + 1 + 1 + 1 < w2.heap.size := by omega)
  (try have hL2_w0 : w.heap.size ≤ w2.heap.size := by omega)
  (try have hL2_w1 : w.heap.size + 1 ≤ w2.heap.size := by omega)
  (try have hL2_w2 : w.heap.size + 1 + 1 ≤ w2.heap.size := by omega)
  (try have hL2_w3 : w.heap.size + 1 + 1 + 1 ≤ w2.heap.size := by omega)
  (try have hL2_w : w.heap.size ≤ w2.heap.size + 1 := by omega)
  (try have hM2_1 : w.heap.size < w2.heap.size + 1 := by omega)
  (try have hM2_2 : w.heap.size < w2.heap.size + 1 + 1 := by omega)
  (try have hM2_3 : w.heap.size < w2.heap.size + 1 + 1 + 1 := by omega)
  (try have hN2_1_00 : w1.heap.size < w2.heap.size := by omega)
  (try have hN2_1_01 : w1.heap.size < w2.heap.size + 1 := by omega)
  (try have hN2_1_02 : w1.heap.size < w2.heap.size + 1 + 1 := by omega)
  (try have hN2_1_10 : w1.heap.size + 1 < w2.heap.size := by omega)
  (try have hN2_1_11 : w1.heap.size + 1 < w2.heap.size + 1 := by omega)
  (try have hN2_1_12 : w1.heap.size + 1 < w2.heap.size + 1 + 1 := by omega)
  (try have hN2_1_20 : w1.heap.size + 1 + 1 < w2.heap.size := by omega)
  (try have hN2_1_21 : w1.heap.size + 1 + 1 < w2.heap.size + 1 := by omega)
  (try have hN2_1_22 : w1.heap.size + 1 + 1 < w2.heap.size + 1 + 1 := by omega)
  (try have hL2_1 : w1.heap.size ≤ w2.heap.size := by omega)
  (try have hS2_1 : w1.heap.size < w2.heap.size := by omega)
  (try have hS2_1' : w1.heap.size + 1 < w2.heap.size := by omega)
  simp only [Act.put, Act.eval, List.setIfInBounds_toArray, List.set_cons_zero, List.set_cons_succ]
  go_wp2_with fail
  refine region_mixed 8 (by kernel_rfl) (by kernel_rfl) (by kernel_rfl) ?_
  apply Exists.intro
  refine ⟨fun w0 hw0 => ?_, ?_⟩
  · obtain ⟨hC0, hF0⟩ := bcell hw0
    have hS0 := hw0.size
    (try simp at hS0)
    (try have hS0_w0 : w.heap.size < w0.heap.size := by omega)
    (try have hS0_w1 : w.heap.size + 1 < w0.heap.size := by omega)
    (try have hS0_w2 : w.heap.size + 1 + 1 < w0.heap.size := by omega)
    (try have hS0_w3 : w.heap.size + 1 + 1 + 1 < w0.heap.size := by omega)
    (try have hS0_w4 : w.heap.size + 1 + 1 + 1 + 1 < w0.heap.size := by omega)
    (try have hL0_w0 : w.heap.size ≤ w0.heap.size := by omega)
    (try have hL0_w1 : w.heap.size + 1 ≤ w0.heap.size := by omega)
    (try have hL0_w2 : w.heap.size + 1 + 1 ≤ w0.heap.size := by omega)
    (try have hL0_w3 : w.heap.size + 1 + 1 + 1 ≤ w0.heap.size := by omega)
    (try have hL0_w : w.heap.size ≤ w0.heap.size + 1 := by omega)
    (try have hM0_1 : w.heap.size < w0.heap.size + 1 := by omega)
    (try have hM0_2 : w.heap.size < w0.heap.size + 1 + 1 := by omega)
    (try have hM0_3 : w.heap.size < w0.heap.size + 1 + 1 + 1 := by omega)
    (try have hN0_1_00 : w1.heap.size < w0.heap.size := by omega)
    (try have hN0_1_01 : w1.heap.size < w0.heap.size + 1 := by omega)
    (try have hN0_1_02 : w1.heap.size < w0.heap.size + 1 + 1 := by omega)
    (try have hN0_1_10 : w1.heap.size + 1 < w0.heap.size := by omega)
    (try have hN0_1_11 : w1.heap.size + 1 < w0.heap.size + 1 := by omega)
    (try have hN0_1_12 : w1.heap.size + 1 < w0.heap.size + 1 + 1 := by omega)
    (try have hN0_1_20 : w1.heap.size + 1 + 1 < w0.heap.size := by omega)
    (try have hN0_1_21 : w1.heap.size + 1 + 1 < w0.heap.size + 1 := by omega)
    (try have hN0_1_22 : w1.heap.size + 1 + 1 < w0.heap.size + 1 + 1 := by omega)
    (try have hN0_2_00 : w2.heap.size < w0.heap.size := by omega)
    (try have hN0_2_01 : w2.heap.size < w0.heap.size + 1 := by omega)
    (try have hN0_2_02 : w2.heap.size < w0.heap.size + 1 + 1 := by omega)
    (try have hN0_2_10 : w2.heap.size + 1 < w0.heap.size := by omega)
    (try have hN0_2_11 : w2.heap.size + 1 < w0.heap.size + 1 := by omega)
    (try have hN0_2_12 : w2.heap.size + 1 < w0.heap.size + 1 + 1 := by omega)
    (try have hN0_2_20 : w2.heap.size + 1 + 1 < w0.heap.size := by omega)
    (try have hN0_2_21 : w2.heap.size + 1 + 1 < w0.heap.size + 1 := by omega)
    (try have hN0_2_22 : w2.heap.size + 1 + 1 < w0.heap.size + 1 + 1 := by omega)
    (try have hL0_1 : w1.heap.size ≤ w0.heap.size := by omega)
    (try have hL0_2 : w2.heap.size ≤ w0.heap.size := by omega)
    (try have hS0_1 : w1.heap.size < w0.heap.size := by omega)
    (try have hS0_1' : w1.heap.size + 1 < w0.heap.size := by omega)
    (try have hS0_2 : w2.heap.size < w0.heap.size := by omega)
    (try have hS0_2' : w2.heap.size + 1 < w0.heap.size := by omega)
    simp only [List.take_succ_cons, List.take_zero]
    repeat (first | go_big_quiet_skip | (go_big_quiet_want; go_big_quiet_op; first | go_big_quiet_on | (apply Exists.intro; refine ⟨fun _ => ?_, ?_⟩; (focus (first | (go_at_call 16; exact past_of (toLattice_any _ _ _ _)) | (go_at_call 48; exact past_of (implSumOfLattices_any _ _ _ _ _ _ _)))); go_big_quiet_on)))
    refine wpQuiet_nil ?_
    rfl
  intro W hW hWz
  simp only [List.drop_succ_cons, List.drop_zero]
  refine eff_new #[.int .i64 0, .int .i64 0, .int .i64 0] 25 [.int .i64 (iz (lsB a b d a' b' d') (lT (sumV a b d a' b' d')).1), .int .i64 (iz (lsB a b d a' b' d') (lT (sumV a b d a' b' d')).2.1), .int .i64 (iz (lsB a b d a' b' d') (lT (sumV a b d a' b' d')).2.2)] rfl rfl rfl rfl (fun _ => by simp [go_sem]) (cl_refl _) (fun wa wb hb => ?_) (fun w3 hV3 => ?_)
  · obtain ⟨hc, hf⟩ := bnew hb
    refine ⟨.skip, ?_, Or.inl rfl⟩
    simp [go_sem, setAll, Act.put, hc, hf]
  have hB3 := hW.trans (hV3.mono hW.size)
  obtain ⟨hC3, hF3⟩ := bcell hB3
  have hS3 := hB3.size
  (try simp at hS3)
  (try have hS3_w0 : w.heap.size < w3.heap.size := by omega)
  (try have hS3_w1 : w.heap.size + 1 < w3.heap.size := by omega)
  (try have hS3_w2 : w.heap.size + 1 + 1 < w3.heap.size := by omega)
  (try have hS3_w3 : w.heap.size + 1 + 1 + 1 < w3.heap.size := by omega)
  (try have hS3_w4 : w.heap.size + 1 + 1 + 1 + 1 < w3.heap.size := by omega)
  (try have hL3_w0 : w.heap.size ≤ w3.heap.size := by omega)
  (try have hL3_w1 : w.heap.size + 1 ≤ w3.heap.size := by omega)
  (try have hL3_w2 : w.heap.size + 1 + 1 ≤ w3.heap.size := by omega)
  (try have hL3_w3 : w.heap.size + 1 + 1 + 1 ≤ w3.heap.size := by omega)
  (try have hL3_w : w.heap.size ≤ w3.heap.size + 1 := by omega)
  (try have hM3_1 : w.heap.size < w3.heap.size + 1 := by omega)
  (try have hM3_2 : w.heap.size < w3.heap.size + 1 + 1 := by omega)
  (try have hM3_3 : w.heap.size < w3.heap.size + 1 + 1 + 1 := by omega)
  (try have hN3_1_00 : w1.heap.size < w3.heap.size := by omega)
  (try have hN3_1_01 : w1.heap.size < w3.heap.size + 1 := by omega)
  (try have hN3_1_02 : w1.heap.size < w3.heap.size + 1 + 1 := by omega)
  (try have hN3_1_10 : w1.heap.size + 1 < w3.heap.size := by omega)
  (try have hN3_1_11 : w1.heap.size + 1 < w3.heap.size + 1 := by omega)
  (try have hN3_1_12 : w1.heap.size + 1 < w3.heap.size + 1 + 1 := by omega)
  (try have hN3_1_20 : w1.heap.size + 1 + 1 < w3.heap.size := by omega)
  (try have hN3_1_21 : w1.heap.size + 1 + 1 < w3.heap.size + 1 := by omega)
  (try have hN3_1_22 : w1.heap.size + 1 + 1 < w3.heap.size + 1 + 1 := by omega)
  (try have hN3_2_00 : w2.heap.size < w3.heap.size := by omega)
  (try have hN3_2_01 : w2.heap.size < w3.heap.size + 1 := by omega)
  (try have hN3_2_02 : w2.heap.size < w3.heap.size + 1 + 1 := by omega)
  (try have hN3_2_10 : w2.heap.size + 1 < w3.heap.size := by omega)
  (try have hN3_2_11 : w2.heap.size + 1 < w3.heap.size + 1 := by omega)
  (try have hN3_2_12 : w2.heap.size + 1 < w3.heap.size + 1 + 1 := by omega)
  (try have hN3_2_20 : w2.heap.size + 1 + 1 < w3.heap.size := by omega)
  (try have hN3_2_21 : w2.heap.size + 1 + 1 < w3.heap.size + 1 := by omega)
  (try have hN3_2_22 : w2.heap.size + 1 + 1 < w3.heap.size + 1 + 1 := by omega)
  (try have hL3_1 : w1.heap.size ≤ w3.heap.size := by omega)
  (try have hL3_2 : w2.heap.size ≤ w3.heap.size := by omega)
  (try have hS3_1 : w1.heap.size < w3.heap.size := by omega)
  (try have hS3_1' : w1.heap.size + 1 < w3.heap.size := by omega)
  (try have hS3_2 : w2.heap.size < w3.heap.size := by omega)
  (try have hS3_2' : w2.heap.size + 1 < w3.heap.size := by omega)
  have hK : Cl W (w3.alloc (.cells #[.int .i64 (iz (lsB a b d a' b' d') (lT (sumV a b d a' b' d')).1), .int .i64 (iz (lsB a b d a' b' d') (lT (sumV a b d a' b' d')).2.1), .int .i64 (iz (lsB a b d a' b' d') (lT (sumV a b d a' b' d')).2.2)] 25)) := (cl_of hV3).alloc _
  refine eff_set _ rfl rfl hK ?_
  clear hK
  intro w4 hV4
  have hB4 := past_below hV4
  clear hV3 hV4 hW hWz
  obtain ⟨hC4, hF4⟩ := bcell hB4
  have hS4 := hB4.size
  (try simp at hS4)
  (try have hS4_w0 : w.heap.size < w4.heap.size := by omega)
  (try have hS4_w1 : w.heap.size + 1 < w4.heap.size := by omega)
  (try have hS4_w2 : w.heap.size + 1 + 1 < w4.heap.size := by omega)
  (try have hS4_w3 : w.heap.size + 1 + 1 + 1 < w4.heap.size := by omega)
  (try have hS4_w4 : w.heap.size + 1 + 1 + 1 + 1 < w4.heap.size := by omega)
  (try have hL4_w0 : w.heap.size ≤ w4.heap.size := by omega)
  (try have hL4_w1 : w.heap.size + 1 ≤ w4.heap.size := by omega)
  (try have hL4_w2 : w.heap.size + 1 + 1 ≤ w4.heap.size := by omega)
  (try have hL4_w3 : w.heap.size + 1 + 1 + 1 ≤ w4.heap.size := by omega)
  (try have hL4_w : w.heap.size ≤ w4.heap.size + 1 := by omega)
  (try have hM4_1 : w.heap.size < w4.heap.size + 1 := by omega)
  (try have hM4_2 : w.heap.size < w4.heap.size + 1 + 1 := by omega)
  (try have hM4_3 : w.heap.size < w4.heap.size + 1 + 1 + 1 := by omega)
  (try have hN4_1_00 : w1.heap.size < w4.heap.size := by omega)
  (try have hN4_1_01 : w1.heap.size < w4.heap.size + 1 := by omega)
  (try have hN4_1_02 : w1.heap.size < w4.heap.size + 1 + 1 := by omega)
  (try have hN4_1_10 : w1.heap.size + 1 < w4.heap.size := by omega)
  (try have hN4_1_11 : w1.heap.size + 1 < w4.heap.size + 1 := by omega)
  (try have hN4_1_12 : w1.heap.size + 1 < w4.heap.size + 1 + 1 := by omega)
  (try have hN4_1_20 : w1.heap.size + 1 + 1 < w4.heap.size := by omega)
  (try have hN4_1_21 : w1.heap.size + 1 + 1 < w4.heap.size + 1 := by omega)
  (try have hN4_1_22 : w1.heap.size + 1 + 1 < w4.heap.size + 1 + 1 := by omega)
  (try have hN4_2_00 : w2.heap.size < w4.heap.size := by omega)
  (try have hN4_2_01 : w2.heap.size < w4.heap.size + 1 := by omega)
  (try have hN4_2_02 : w2.heap.size < w4.heap.size + 1 + 1 := by omega)
  (try have hN4_2_10 : w2.heap.size + 1 < w4.heap.size := by omega)
  (try have hN4_2_11 : w2.heap.size + 1 < w4.heap.size + 1 := by omega)
  (try have hN4_2_12 : w2.heap.size + 1 < w4.heap.size + 1 + 1 := by omega)
  (try have hN4_2_20 : w2.heap.size + 1 + 1 < w4.heap.size := by omega)
  (try have hN4_2_21 : w2.heap.size + 1 + 1 < w4.heap.size + 1 := by omega)
  (try have hN4_2_22 : w2.heap.size + 1 + 1 < w4.heap.size + 1 + 1 := by omega)
  (try have hN4_3_00 : w3.heap.size < w4.heap.size := by omega)
  (try have hN4_3_01 : w3.heap.size < w4.heap.size + 1 := by omega)
  (try have hN4_3_02 : w3.heap.size < w4.heap.size + 1 + 1 := by omega)
  (try have hN4_3_10 : w3.heap.size + 1 < w4.heap.size := by omega)
  (try have hN4_3_11 : w3.heap.size + 1 < w4.heap.size + 1 := by omega)
  (try have hN4_3_12 : w3.heap.size + 1 < w4.heap.size + 1 + 1 := by omega)
  (try have hN4_3_20 : w3.heap.size + 1 + 1 < w4.heap.size := by omega)
  (try have hN4_3_21 : w3.heap.size + 1 + 1 < w4.heap.size + 1 := by omega)
  (try have hN4_3_22 : w3.heap.size + 1 + 1 < w4.heap.size + 1 + 1 := by omega)
  (try have hL4_1 : w1.heap.size ≤ w4.heap.size := by omega)
  (try have hL4_2 : w2.heap.size ≤ w4.heap.size := by omega)
  (try have hL4_3 : w3.heap.size ≤ w4.heap.size := by omega)
  (try have hS4_1 : w1.heap.size < w4.heap.size := by omega)
  (try have hS4_1' : w1.heap.size + 1 < w4.heap.size := by omega)
  (try have hS4_2 : w2.heap.size < w4.heap.size := by omega)
  (try have hS4_2' : w2.heap.size + 1 < w4.heap.size := by omega)
  (try have hS4_3 : w3.heap.size < w4.heap.size := by omega)
  (try have hS4_3' : w3.heap.size + 1 < w4.heap.size := by omega)
  simp only [Act.put, Act.eval, List.setIfInBounds_toArray, List.set_cons_zero, List.set_cons_succ]
  go_wp2_with (go_at_call 46; refine (eqLattice_same _ _ _ _).mono ?_; rintro e w' ⟨rfl, hB⟩; obtain ⟨hC, hF⟩ := bcell hB; have hS := hB.size; (try simp at hS); (try have hSl := Nat.lt_of_succ_le hS); (try have hS0 : w.heap.size < w'.heap.size := by omega); (try have hS1 : w.heap.size + 1 < w'.heap.size := by omega); (try have hS2 : w.heap.size + 1 + 1 < w'.heap.size := by omega); (try have hS3 : w.heap.size + 1 + 1 + 1 < w'.heap.size := by omega))
  go_ret
  refine ⟨rfl, ?_⟩
  repeat (first | with_reducible exact Below.refl _ _ | with_reducible assumption | ((with_reducible refine blA ?_ ?_); (focus (first | omega | (simp <;> omega)))) | (with_reducible refine blD ?_) | (with_reducible refine blN ?_) | ((with_reducible refine blS ?_ ?_); (focus (first | omega | (simp <;> omega)))) | ((with_reducible refine blT (by assumption) ?_ ?_); (focus (first | omega | (simp <;> omega)))))
end Go.Proofs.Ytdeboabifcpdbaa
