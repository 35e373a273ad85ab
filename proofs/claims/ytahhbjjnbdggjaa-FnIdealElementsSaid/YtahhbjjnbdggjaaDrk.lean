/-
  The reference's draw of a moved form.
-/
import Derived.Test.YtahhbjjnbdggjaaDrj
import Derived.Test.YtahhbjjnbdggjaaDef
import Derived.Test.YtahhbjjnbdggjaaMig
namespace Go.Proofs.Ytahhbjjnbdggjaa
open Go.RowKit
attribute [local simp, local go_sem] past_cell past_frozen past_tape
/-- A form with a positive first coefficient, all within a million. -/
def MF (f : Int × Int × Int) : Prop := 1 ≤ f.1 ∧ f.1 ≤ 1000000 ∧ Bd 1000000 f.2.1 ∧ Bd 1000000 f.2.2
theorem pf_mf {d : Int} {f : Int × Int × Int} (hf : PF d f) : MF f := by
  obtain ⟨h1, h2, h3, h4, h5, h6, -⟩ := hf
  exact ⟨h1, by omega, ⟨by omega, by omega⟩, ⟨by omega, by omega⟩⟩
set_option maxRecDepth 100000 in
set_option maxHeartbeats 8000000 in
theorem moved_any (m g : Nat) (d a b c : Int) (w : World) (h : Cur m g w) (hm : m ≤ 800000) (hd : d ≤ -3) (hf : PF d (a, b, c)) :
    Calls Try.prog 78 #[.pointer (some ⟨g, 0, none⟩), .agg #[.int .i64 a, .int .i64 b, .int .i64 c]] w fun e w' => (∃ x : Int × Int × Int, e = .returned (.agg #[.int .i64 x.1, .int .i64 x.2.1, .int .i64 x.2.2]) ∧ MF x ∧ True) ∧ Cur (m + 40) g w' ∧ w.grownBy w' (some g) := by
  have hlt := h.lt
  have k0 : Cur m g ((w.alloc (.cells #[.int .i64 a, .int .i64 b, .int .i64 c] 25)).alloc (.cells #[.int .i64 0, .int .i64 0, .int .i64 0] 25)) := kA (kA h)
  go_enter Try.func78, Try.ntmps78
  go_wp2_with fail
  refine region_mixF g 5 4 [0, 1] [(false, 2), (false, 3)] _ (.cells #[.int .i64 0, .int .i64 0, .int .i64 0] 25) (by kernel_rfl) (by kernel_rfl) (by first | exact hlt | omega | (simp; omega)) rfl rfl (fun _ _ => by simp [go_sem]) (by kernel_rfl) ?_
  apply Exists.intro
  refine ⟨fun w0 g0 => ?_, ?_⟩
  · obtain ⟨hC0, hF0⟩ := gcell g0 hlt
    have hS0 := g0.size
    (try simp at hS0)
    (try have hS0_w : w.heap.size < w0.heap.size := by omega)
    (try have hM0_1 : w.heap.size < w0.heap.size + 1 := by omega)
    (try have hS0_v : w.heap.size + 1 < w0.heap.size := by omega)
    (try have hS0_u : w.heap.size + 1 + 1 < w0.heap.size := by omega)
    (try have hS0_t : w.heap.size + 1 + 1 + 1 < w0.heap.size := by omega)
    simp only [List.filterMap_cons, List.filterMap_nil, List.getElem?_cons_zero, List.getElem?_cons_succ]
    show wpQuiet _ _ _ _ [_, _] _
    repeat (first | go_big_quiet_skip | (go_big_quiet_want; go_big_quiet_op; first | go_big_quiet_on | (apply Exists.intro; refine ⟨fun _ => ?_, ?_⟩; (focus (fail)); go_big_quiet_on)))
    refine wpQuiet_nil ?_
    rfl
  intro W hW hWz
  simp only [List.filterMap_cons, List.filterMap_nil, List.getElem?_cons_zero, List.getElem?_cons_succ, Option.map_some, List.drop_succ_cons, List.drop_zero]
  show effWG _ _ _ _ [(false, _), (false, _)] _ _
  refine effG_of fun wa hBa => ?_
  go_wp2_with fail
  refine (proper_any m g _ (kB hBa (kB hW k0)) (by omega)).mono ?_
  rintro e1 w1 ⟨⟨⟨p, q, r, s⟩, rfl, p1, q1⟩, k1, g1⟩
  go_wp2
  refine effR_of rfl g1 ?_
  refine effG_of fun wc hBc => ?_
  go_wp2_with fail
  refine (foAct_any a b c p q r s _).mono ?_
  rintro e2 w2 ⟨rfl, hB2⟩
  go_wp2
  refine effR_of rfl (gB hB2 (grown_id _ _)) ?_
  intro w3 bb hV hb1 hb2 hb3
  have k3 := kB (past_below hV) (kB hB2 (kB hBc k1))
  have g3 : w.grownBy w3 (some g) := gB (past_below hV) (gB hB2 (gB hBc (gT g1 (gB hBa (gB hW (gA (gA (grown_id _ _))))))))
  have g3' := gB (past_below hV) (gB hB2 (gB hBc (gT g1 (gB hBa (gB hW (grown_id _ (some g)))))))
  obtain ⟨hC3, hF3⟩ := gcell g3' hlt
  obtain ⟨hz, hfz⟩ := cells_at hb3
  have hS3 := g3'.size
  (try simp at hS3)
  (try simp at hb1)
  clear hV hB2 hBc g1 hBa hW g3'
  obtain ⟨w4, e4, h4, z4, g4⟩ := set3 (.int .i64 (valW a b c p r)) (.int .i64 (polW a b c p r q s)) (.int .i64 (valW a b c q s)) hb3
  obtain ⟨c4, f4⟩ := cells_at h4
  obtain ⟨hC4, hF4⟩ := fcell g4
  go_wp2_with fail
  try rw [e4]
  have k4 : Cur (m + 40) g w4 := k3.apart g4 (fun k e => by cases e; omega)
  have g5 : w.grownBy w4 (some g) := gO (by omega) g4 g3
  have hr0 : w4.cell? ⟨w.heap.size, 0, none⟩ = some (.int .i64 a) := by rw [hC4 _ _ (by omega) (by omega), hC3 _ _ (by omega) (by simp; omega)]; simp
  have hr1 : w4.cell? ⟨w.heap.size, 1, none⟩ = some (.int .i64 b) := by rw [hC4 _ _ (by omega) (by omega), hC3 _ _ (by omega) (by simp; omega)]; simp
  have hr2 : w4.cell? ⟨w.heap.size, 2, none⟩ = some (.int .i64 c) := by rw [hC4 _ _ (by omega) (by omega), hC3 _ _ (by omega) (by simp; omega)]; simp
  have hr3 : w4.frozen? ⟨w.heap.size, 0, none⟩ = false ∧ w4.frozen? ⟨w.heap.size, 1, none⟩ = false ∧ w4.frozen? ⟨w.heap.size, 2, none⟩ = false := by
    refine ⟨?_, ?_, ?_⟩ <;> (rw [hF4 _ _ (by omega) (by omega), hF3 _ _ (by omega) (by simp; omega)]; simp)
  have hs0 : ∀ i, i < 3 → w4.cell? ⟨w.heap.size + 1, i, none⟩ = some (.int .i64 0) := by
    intro i hi
    rw [hC4 _ _ (by omega) (by omega), hC3 _ _ (by omega) (by simp)]
    obtain rfl | rfl | rfl : i = 0 ∨ i = 1 ∨ i = 2 := by omega
    all_goals simp
  have hs1 : ∀ i, w4.frozen? ⟨w.heap.size + 1, i, none⟩ = false := by
    intro i
    rw [hF4 _ _ (by omega) (by omega), hF3 _ _ (by omega) (by simp)]
    simp
  clear hC3 hF3 hC4 hF4 hz hfz h4 hb3 e4 g4 g3 k3 h k0
  refine (foGood_any _ _ _ _).mono ?_
  rintro e5 w5 ⟨rfl, hB5⟩
  have k5 := kB hB5 k4
  have g6 := gB hB5 g5
  have hS5 := hB5.size
  obtain ⟨hC5, hF5⟩ := bcell hB5
  have hl1 : w.heap.size < w4.heap.size := by omega
  have hl2 : w.heap.size + 1 < w4.heap.size := by omega
  have hl3 : bb < w4.heap.size := by omega
  have t0 : w5.cell? ⟨w.heap.size, 0, none⟩ = some (.int .i64 a) := by rw [hC5 _ _ hl1]; exact hr0
  have t1 : w5.cell? ⟨w.heap.size, 1, none⟩ = some (.int .i64 b) := by rw [hC5 _ _ hl1]; exact hr1
  have t2 : w5.cell? ⟨w.heap.size, 2, none⟩ = some (.int .i64 c) := by rw [hC5 _ _ hl1]; exact hr2
  have u0 : w5.cell? ⟨bb, 0, none⟩ = some (.int .i64 (valW a b c p r)) := by rw [hC5 _ _ hl3, c4]; rfl
  have u1 : w5.cell? ⟨bb, 1, none⟩ = some (.int .i64 (polW a b c p r q s)) := by rw [hC5 _ _ hl3, c4]; rfl
  have u2 : w5.cell? ⟨bb, 2, none⟩ = some (.int .i64 (valW a b c q s)) := by rw [hC5 _ _ hl3, c4]; rfl
  have s0 : w5.cell? ⟨w.heap.size + 1, 0, none⟩ = some (.int .i64 0) := by rw [hC5 _ _ hl2]; exact hs0 0 (by omega)
  have s1 : w5.cell? ⟨w.heap.size + 1, 1, none⟩ = some (.int .i64 0) := by rw [hC5 _ _ hl2]; exact hs0 1 (by omega)
  have s2 : w5.cell? ⟨w.heap.size + 1, 2, none⟩ = some (.int .i64 0) := by rw [hC5 _ _ hl2]; exact hs0 2 (by omega)
  have sf : ∀ i, w5.frozen? ⟨w.heap.size + 1, i, none⟩ = false := fun i => by rw [hF5 _ _ hl2]; exact hs1 i
  have hl4 : g < w.heap.size + 1 := by omega
  clear hC5 hF5 hl1 hl2 hl3 z4 c4 f4 hr0 hr1 hr2 hr3 hs0 hs1 hS3 hS5 hb1 hb2 hWz
  cases hgd : formB (valW a b c p r) (polW a b c p r q s) (valW a b c q s)
  · go_wp2_with fail
    refine bodyPost_ret (v := .agg #[.int .i64 a, .int .i64 b, .int .i64 c]) (by go_light; simp [results, Try.results78, go_sem, *]) rfl ⟨⟨(a, b, c), rfl, pf_mf hf, trivial⟩, ?_, ?_⟩
    · repeat (first | with_reducible refine kA ?_ | ((with_reducible refine kS ?_ ?_); focus omega))
      exact Cur.mono (by assumption) (by omega)
    · repeat (first | with_reducible assumption | with_reducible exact grown_id _ _ | with_reducible refine gA ?_ | ((with_reducible refine gS ?_ ?_); focus (first | omega | (simp <;> omega))) | with_reducible refine gT (by assumption) ?_)
  · go_wp2_with fail
    have hbd := formB_bd hgd
    refine bodyPost_ret (v := .agg #[.int .i64 (valW a b c p r), .int .i64 (polW a b c p r q s), .int .i64 (valW a b c q s)]) (by go_light; simp [results, Try.results78, go_sem, *]) rfl ⟨⟨(valW a b c p r, polW a b c p r q s, valW a b c q s), rfl, ⟨moved_pos hf hd q1, hbd.1.2, hbd.2.1, hbd.2.2⟩, trivial⟩, ?_, ?_⟩
    · repeat (first | with_reducible refine kA ?_ | ((with_reducible refine kS ?_ ?_); focus omega))
      exact Cur.mono (by assumption) (by omega)
    · repeat (first | with_reducible assumption | with_reducible exact grown_id _ _ | with_reducible refine gA ?_ | ((with_reducible refine gS ?_ ?_); focus (first | omega | (simp <;> omega))) | with_reducible refine gT (by assumption) ?_)
end Go.Proofs.Ytahhbjjnbdggjaa
