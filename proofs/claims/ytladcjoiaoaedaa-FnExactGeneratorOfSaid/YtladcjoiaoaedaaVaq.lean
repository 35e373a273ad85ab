/-
  A point is put into an ordered list, which may be empty.
-/
import Derived.Test.YtladcjoiaoaedaaVap
namespace Go.Proofs.Ytladcjoiaoaedaa
open Go.RowKit
attribute [local simp, local go_sem] past_cell past_frozen past_tape
theorem append_none (w : World) (g n cap : Nat) (h : n ≤ cap) :
    (Builtin.append_ #[63, 63] 63 #[.slice (some ⟨g, 0, none⟩) n cap, .slice none 0 0]).run Try.prog w = .ok (.slice (some ⟨g, 0, none⟩) n cap) w := by
  have hinf : (Try.prog.info? 67).map (fun i => (i.zero, i.size, i.bytes)) = some (some (.agg #[.int .i64 0, .int .i64 0]), 2, 16) := by kernel_rfl
  obtain ⟨i, hi1, -, -, -⟩ := info_parts hinf
  exact run_append_none w _ _ _ i (by kernel_rfl) hi1 g n cap h
set_option maxRecDepth 100000 in
set_option maxHeartbeats 8000000 in
theorem vaPut_nil (x y : Int) (w : World) :
    Calls Try.prog 89 #[.slice none 0 0, .agg #[.int .i64 x, .int .i64 y]] w (PutR w [] (x, y)) := by
  have hap := append_none
  go_enter Try.func89, Try.ntmps89
  go_wp2
  go_loopw [5] (fun i wr => i = .int .i64 0 ∧ Hid (Blk w.heap.size 67 #[.int .i64 x, .int .i64 y] wr) ∧ Hid (Below w.heap.size w wr)) (fun _ _ => 0)
  case atStart =>
    refine ⟨rfl, Lib.hid (Blk.new _ _ _), ?_⟩
    show Below _ _ _
    repeat (first | with_reducible exact Below.refl _ _ | with_reducible assumption | ((with_reducible refine blA ?_ ?_); (focus (first | omega | (simp <;> omega)))) | (with_reducible refine blD ?_) | (with_reducible refine blN ?_) | ((with_reducible refine blS ?_ ?_); (focus (first | omega | (simp <;> omega)))) | ((with_reducible refine blT (by assumption) ?_ ?_); (focus (first | omega | (simp <;> omega)))))
  case round =>
    obtain ⟨rfl, hblk, hbel⟩ := hrel
    have hbs := hbel.out.size
    have cb := hblk.out.cell
    have lb := hblk.out.lt
    go_wp2_with fail
    refine wp_region_past (by kernel_rfl) (by kernel_rfl) ?_
    repeat (first | go_big_quiet_skip | (go_big_quiet_want; go_big_quiet_op; first | go_big_quiet_on | (apply Exists.intro; refine ⟨fun _ => ?_, ?_⟩; (focus (fail)); go_big_quiet_on)))
    refine wpQuiet_nil ?_
    intro w1 hw'
    have hB1 := past_below hw'
    clear hw'
    obtain ⟨hC1, hF1⟩ := bcell hB1
    have hS1 := hB1.size
    (try simp at hS1)
    (try have hS1_w0 : w.heap.size < w1.heap.size := by omega)
    (try have hS1_w1 : w.heap.size + 1 < w1.heap.size := by omega)
    (try have hS1_w2 : w.heap.size + 1 + 1 < w1.heap.size := by omega)
    (try have hS1_w3 : w.heap.size + 1 + 1 + 1 < w1.heap.size := by omega)
    (try have hS1_w4 : w.heap.size + 1 + 1 + 1 + 1 < w1.heap.size := by omega)
    have hB9 := hbel.out.trans (hB1.mono hbs)
    have hK9 := hblk.out.below hB1
    clear hB1 hC1 hF1 cb
    have hlk := hK9.lt
    have hz9 := hB9.size
    have cb9 := hK9.cell
    obtain ⟨wa, ea, ka, ra, ba, pa, za⟩ : ∃ wa, (w1.alloc (.cells #[] 67)).alloc (.cells #[.int .i64 x, .int .i64 y] 67) = wa ∧ Blk w.heap.size 67 #[.int .i64 x, .int .i64 y] wa ∧ Rw (w.heap.size + 1) 67 2 c2 wa (.slice (some ⟨w1.heap.size, 0, none⟩) 0 0) [] ∧ Below w.heap.size w wa ∧ Blk (w1.heap.size + 1) 67 #[.int .i64 x, .int .i64 y] wa ∧ wa.heap.size = w1.heap.size + 1 + 1 := by
      refine ⟨_, rfl, (hK9.alloc _).alloc _, (Rw.empty (by omega)).alloc _, (hB9.alloc (by omega) _).alloc (by simp; omega) _, ?_, by simp⟩
      have := Blk.new (w1.alloc (.cells #[] 67)) 67 #[.int .i64 x, .int .i64 y]
      simpa using this
    have PA := Lib.hid pa
    have RA := Lib.hid ra
    clear pa ra
    go_wp2_with (at_builtin; go_loud (refine app_rws (RA.out) (by rfl) _ _ _ (by rfl) (by kernel_rfl) (by rfl) ⟨w1.heap.size + 1, 0, none⟩ 1 1 ([(x, y)]) (by rfl) (rfl) (fun j u hu => by rw [add_at, Nat.zero_add, PA.out.cell]; simpa [c2] using hu) (by simp) (by first | omega | (simp; omega)) ?_))
    intro v2 wd hr2 hg2 hat2
    have bd := below_row ba (RA.out.mono (by omega)) hg2
    obtain ⟨va, vc, hv, hvc, _, hse⟩ := hr2.sees c2_len
    obtain ⟨gl, rfl⟩ : ∃ gl, va = some ⟨gl, 0, none⟩ := by
      rcases hse with h0 | ⟨gl, h1, _⟩
      · simp at h0
      · exact ⟨gl, h1⟩
    subst hv
    simp only [List.nil_append, List.length_singleton] at hvc hr2 ⊢
    have RD := Lib.hid hr2
    have BD := Lib.hid bd
    clear hr2 hg2 hat2 hse bd
    go_wp2
    go_ret
    exact ⟨⟨_, [(x, y)], rfl, RD.out.mono (by omega), by simp, fun z => by simp⟩, BD.out⟩
theorem vaPut_any (l : List (Int × Int)) (x y : Int) (v : Value) (B : Nat) (w : World) (hr : Rw B 67 2 c2 w v l) (hl : l.length ≤ 10000) :
    Calls Try.prog 89 #[v, .agg #[.int .i64 x, .int .i64 y]] w (PutR w l (x, y)) := by
  rcases hr.2 with ⟨hv, h0⟩ | _
  · obtain rfl : l = [] := List.length_eq_zero_iff.1 h0
    rw [hv]
    exact vaPut_nil x y w
  · obtain ⟨a, cap, hv, hc, hm, hs⟩ := hr.sees c2_len
    rcases hs with h0 | ⟨g, h1, h2, h3, h4, h5⟩
    · obtain rfl : l = [] := List.length_eq_zero_iff.1 h0
      rcases hr.2 with ⟨hv', _⟩ | ⟨g, cap', cur, hv', hbg, hg, _⟩
      · rw [hv']; exact vaPut_nil x y w
      · rw [hv'] at hv ⊢
        have hlt := (hr.lt g (by rw [hv']; rfl)).2
        simp only [Value.slice.injEq] at hv
        obtain ⟨_, _, rfl⟩ := hv
        exact vaPut_some [] x y g cap' w hlt (fun k x hx => by simp at hx) (by simp) (by simp) hm
    · rw [hv, h1]
      exact vaPut_some l x y g cap w h3 h4 hl hc hm
end Go.Proofs.Ytladcjoiaoaedaa
