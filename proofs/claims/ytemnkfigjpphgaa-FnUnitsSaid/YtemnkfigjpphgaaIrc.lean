/-
  Reduction of indefinite forms walked, both ways.
-/
import Derived.Test.YtemnkfigjpphgaaIrx
import Derived.Test.YtemnkfigjpphgaaBlk
namespace Go.Proofs.Ytemnkfigjpphgaa
open Go.RowKit
attribute [local simp, local go_sem] past_cell past_frozen past_tape
theorem mB_mle {M : Mt} : mB M.1 M.2.1 M.2.2.1 M.2.2.2 = true ↔ mle 1000000 M := by
  simp only [mB, numB, Bool.and_eq_true, decide_eq_true_eq, mle]
  omega
theorem mm_bd {M N : Mt} (h : mle 1000000 M) (k : mle 1000000 N) : ∀ x ∈ [(mm M N).1, (mm M N).2.1, (mm M N).2.2.1, (mm M N).2.2.2], -2000000000000 ≤ x ∧ x ≤ 2000000000000 := by
  obtain ⟨h1, h2, h3, h4⟩ := h
  obtain ⟨k1, k2, k3, k4⟩ := k
  have key : ∀ a b c d : Int, (a.natAbs : Int) ≤ 1000000 → (b.natAbs : Int) ≤ 1000000 → (c.natAbs : Int) ≤ 1000000 → (d.natAbs : Int) ≤ 1000000 → -2000000000000 ≤ a * b + c * d ∧ a * b + c * d ≤ 2000000000000 := by
    intro a b c d ha hb hc hd
    obtain ⟨x1, x2⟩ := mul_bd (bd_iff.2 ha) (bd_iff.2 hb) (show (1000000 : Int) * 1000000 ≤ 1000000000000 by decide)
    obtain ⟨x3, x4⟩ := mul_bd (bd_iff.2 hc) (bd_iff.2 hd) (show (1000000 : Int) * 1000000 ≤ 1000000000000 by decide)
    exact ⟨by omega, by omega⟩
  simp only [List.mem_cons, List.not_mem_nil, or_false, forall_eq_or_imp, forall_eq, mm]
  exact ⟨key _ _ _ _ h1 k1 h2 k3, key _ _ _ _ h1 k2 h2 k4, key _ _ _ _ h3 k1 h4 k3, key _ _ _ _ h3 k2 h4 k4⟩
theorem wsum {a b c d : Int} (ha : (a.natAbs : Int) ≤ 1000000) (hb : (b.natAbs : Int) ≤ 1000000) (hc : (c.natAbs : Int) ≤ 1000000) (hd : (d.natAbs : Int) ≤ 1000000) : wrap64 (wrap64 (a * b) + wrap64 (c * d)) = a * b + c * d := by
  obtain ⟨x1, x2⟩ := mul_bd (bd_iff.2 ha) (bd_iff.2 hb) (show (1000000 : Int) * 1000000 ≤ 1000000000000 by decide)
  obtain ⟨x3, x4⟩ := mul_bd (bd_iff.2 hc) (bd_iff.2 hd) (show (1000000 : Int) * 1000000 ≤ 1000000000000 by decide)
  rw [wS (x := a * b) ⟨by omega, by omega⟩, wS (x := c * d) ⟨by omega, by omega⟩, wS ⟨by omega, by omega⟩]
theorem times_mm (M N : Mt) (w : World) (h : mle 1000000 M) (k : mle 1000000 N) :
    Calls Try.prog 69 #[.agg #[.int .i64 M.1, .int .i64 M.2.1, .int .i64 M.2.2.1, .int .i64 M.2.2.2], .agg #[.int .i64 N.1, .int .i64 N.2.1, .int .i64 N.2.2.1, .int .i64 N.2.2.2]] w fun en w' => en = .returned (.agg #[.int .i64 ((mm M N).1), .int .i64 ((mm M N).2.1), .int .i64 ((mm M N).2.2.1), .int .i64 ((mm M N).2.2.2)]) ∧ Below w.heap.size w w' := by
  obtain ⟨h1, h2, h3, h4⟩ := h
  obtain ⟨k1, k2, k3, k4⟩ := k
  have e1 := wsum h1 k1 h2 k3
  have e2 := wsum h1 k2 h2 k4
  have e3 := wsum h3 k1 h4 k3
  have e4 := wsum h3 k2 h4 k4
  obtain ⟨a, b, c, d⟩ := M
  obtain ⟨p, q, r, s⟩ := N
  simp only [mm] at *
  rw [← e1, ← e2, ← e3, ← e4]
  clear e1 e2 e3 e4 h1 h2 h3 h4 k1 k2 k3 k4
  go_enter Try.func69, Try.ntmps69
  go_wp2
  refine bodyPost_ret (v := .agg #[.int .i64 (wrap64 (wrap64 (a * p) + wrap64 (b * r))), .int .i64 (wrap64 (wrap64 (a * q) + wrap64 (b * s))), .int .i64 (wrap64 (wrap64 (c * p) + wrap64 (d * r))), .int .i64 (wrap64 (wrap64 (c * q) + wrap64 (d * s)))]) (by go_light; simp [results, Try.results69, go_sem, *]) rfl ⟨rfl, ?_⟩
  repeat (first | with_reducible exact Below.refl _ _ | with_reducible assumption | ((with_reducible refine blA ?_ ?_); (focus (first | omega | (simp <;> omega)))) | (with_reducible refine blD ?_) | (with_reducible refine blN ?_) | ((with_reducible refine blS ?_ ?_); (focus (first | omega | (simp <;> omega)))) | ((with_reducible refine blT (by assumption) ?_ ?_); (focus (first | omega | (simp <;> omega)))))
theorem foMul_mm (M N : Mt) (w : World) (h : mle 1000000 M) (k : mle 1000000 N) :
    Calls Try.prog 80 #[.agg #[.int .i64 M.1, .int .i64 M.2.1, .int .i64 M.2.2.1, .int .i64 M.2.2.2], .agg #[.int .i64 N.1, .int .i64 N.2.1, .int .i64 N.2.2.1, .int .i64 N.2.2.2]] w fun en w' => en = .returned (.agg #[.int .i64 ((mm M N).1), .int .i64 ((mm M N).2.1), .int .i64 ((mm M N).2.2.1), .int .i64 ((mm M N).2.2.2)]) ∧ Below w.heap.size w w' := by
  obtain ⟨h1, h2, h3, h4⟩ := h
  obtain ⟨k1, k2, k3, k4⟩ := k
  have e1 := wsum h1 k1 h2 k3
  have e2 := wsum h1 k2 h2 k4
  have e3 := wsum h3 k1 h4 k3
  have e4 := wsum h3 k2 h4 k4
  obtain ⟨a, b, c, d⟩ := M
  obtain ⟨p, q, r, s⟩ := N
  simp only [mm] at *
  rw [← e1, ← e2, ← e3, ← e4]
  clear e1 e2 e3 e4 h1 h2 h3 h4 k1 k2 k3 k4
  go_enter Try.func80, Try.ntmps80
  go_wp2
  refine bodyPost_ret (v := .agg #[.int .i64 (wrap64 (wrap64 (a * p) + wrap64 (b * r))), .int .i64 (wrap64 (wrap64 (a * q) + wrap64 (b * s))), .int .i64 (wrap64 (wrap64 (c * p) + wrap64 (d * r))), .int .i64 (wrap64 (wrap64 (c * q) + wrap64 (d * s)))]) (by go_light; simp [results, Try.results80, go_sem, *]) rfl ⟨rfl, ?_⟩
  repeat (first | with_reducible exact Below.refl _ _ | with_reducible assumption | ((with_reducible refine blA ?_ ?_); (focus (first | omega | (simp <;> omega)))) | (with_reducible refine blD ?_) | (with_reducible refine blN ?_) | ((with_reducible refine blS ?_ ?_); (focus (first | omega | (simp <;> omega)))) | ((with_reducible refine blT (by assumption) ?_ ?_); (focus (first | omega | (simp <;> omega)))))
theorem checked_yes (p q r s : Int) (w : World) (h : mB p q r s = true) : Calls Try.prog 71 #[.agg #[.int .i64 p, .int .i64 q, .int .i64 r, .int .i64 s]] w fun en w' => en = .returned (.tuple #[.agg #[.int .i64 p, .int .i64 q, .int .i64 r, .int .i64 s], .bool true]) ∧ Below w.heap.size w w' := by
  have hb : Hid (∀ w0, Calls Try.prog 70 #[.agg #[.int .i64 p, .int .i64 q, .int .i64 r, .int .i64 s]] w0 fun en w' => en = .returned (.bool true) ∧ Below w0.heap.size w0 w') := Lib.hid fun w0 => by have h0 := iMatrix_any p q r s w0; rwa [h] at h0
  clear h
  go_enter Try.func71, Try.ntmps71
  go_wp2_with fail
  refine (hb.out _).mono ?_
  rintro e1 w1 ⟨rfl, hB1⟩
  obtain ⟨hC1, hF1⟩ := bcell hB1
  have hS1 := hB1.size
  (try simp at hS1)
  (try have hS1_w0 : w.heap.size < w1.heap.size := by omega)
  (try have hS1_w1 : w.heap.size + 1 < w1.heap.size := by omega)
  (try have hS1_w2 : w.heap.size + 1 + 1 < w1.heap.size := by omega)
  (try have hS1_w3 : w.heap.size + 1 + 1 + 1 < w1.heap.size := by omega)
  (try have hS1_w4 : w.heap.size + 1 + 1 + 1 + 1 < w1.heap.size := by omega)
  (try have hL1_w0 : w.heap.size ≤ w1.heap.size := by omega)
  (try have hL1_w1 : w.heap.size + 1 ≤ w1.heap.size := by omega)
  (try have hL1_w2 : w.heap.size + 1 + 1 ≤ w1.heap.size := by omega)
  (try have hL1_w3 : w.heap.size + 1 + 1 + 1 ≤ w1.heap.size := by omega)
  (try have hL1_w : w.heap.size ≤ w1.heap.size + 1 := by omega)
  (try have hM1_1 : w.heap.size < w1.heap.size + 1 := by omega)
  (try have hM1_2 : w.heap.size < w1.heap.size + 1 + 1 := by omega)
  (try have hM1_3 : w.heap.size < w1.heap.size + 1 + 1 + 1 := by omega)
  go_wp2_with fail
  refine bodyPost_ret (v := .tuple #[.agg #[.int .i64 p, .int .i64 q, .int .i64 r, .int .i64 s], .bool true]) (by go_light; simp [results, Try.results71, go_sem, *]) rfl ⟨rfl, ?_⟩
  repeat (first | with_reducible exact Below.refl _ _ | with_reducible assumption | ((with_reducible refine blA ?_ ?_); (focus (first | omega | (simp <;> omega)))) | (with_reducible refine blD ?_) | (with_reducible refine blN ?_) | ((with_reducible refine blS ?_ ?_); (focus (first | omega | (simp <;> omega)))) | ((with_reducible refine blT (by assumption) ?_ ?_); (focus (first | omega | (simp <;> omega)))))
theorem checked_no (p q r s : Int) (w : World) (h : mB p q r s = false) : Calls Try.prog 71 #[.agg #[.int .i64 p, .int .i64 q, .int .i64 r, .int .i64 s]] w fun en w' => en = .returned (.tuple #[.agg #[.int .i64 0, .int .i64 0, .int .i64 0, .int .i64 0], .bool false]) ∧ Below w.heap.size w w' := by
  have hb : Hid (∀ w0, Calls Try.prog 70 #[.agg #[.int .i64 p, .int .i64 q, .int .i64 r, .int .i64 s]] w0 fun en w' => en = .returned (.bool false) ∧ Below w0.heap.size w0 w') := Lib.hid fun w0 => by have h0 := iMatrix_any p q r s w0; rwa [h] at h0
  clear h
  go_enter Try.func71, Try.ntmps71
  go_wp2_with fail
  refine (hb.out _).mono ?_
  rintro e1 w1 ⟨rfl, hB1⟩
  obtain ⟨hC1, hF1⟩ := bcell hB1
  have hS1 := hB1.size
  (try simp at hS1)
  (try have hS1_w0 : w.heap.size < w1.heap.size := by omega)
  (try have hS1_w1 : w.heap.size + 1 < w1.heap.size := by omega)
  (try have hS1_w2 : w.heap.size + 1 + 1 < w1.heap.size := by omega)
  (try have hS1_w3 : w.heap.size + 1 + 1 + 1 < w1.heap.size := by omega)
  (try have hS1_w4 : w.heap.size + 1 + 1 + 1 + 1 < w1.heap.size := by omega)
  (try have hL1_w0 : w.heap.size ≤ w1.heap.size := by omega)
  (try have hL1_w1 : w.heap.size + 1 ≤ w1.heap.size := by omega)
  (try have hL1_w2 : w.heap.size + 1 + 1 ≤ w1.heap.size := by omega)
  (try have hL1_w3 : w.heap.size + 1 + 1 + 1 ≤ w1.heap.size := by omega)
  (try have hL1_w : w.heap.size ≤ w1.heap.size + 1 := by omega)
  (try have hM1_1 : w.heap.size < w1.heap.size + 1 := by omega)
  (try have hM1_2 : w.heap.size < w1.heap.size + 1 + 1 := by omega)
  (try have hM1_3 : w.heap.size < w1.heap.size + 1 + 1 + 1 := by omega)
  go_wp2_with fail
  refine bodyPost_ret (v := .tuple #[.agg #[.int .i64 0, .int .i64 0, .int .i64 0, .int .i64 0], .bool false]) (by go_light; simp [results, Try.results71, go_sem, *]) rfl ⟨rfl, ?_⟩
  repeat (first | with_reducible exact Below.refl _ _ | with_reducible assumption | ((with_reducible refine blA ?_ ?_); (focus (first | omega | (simp <;> omega)))) | (with_reducible refine blD ?_) | (with_reducible refine blN ?_) | ((with_reducible refine blS ?_ ?_); (focus (first | omega | (simp <;> omega)))) | ((with_reducible refine blT (by assumption) ?_ ?_); (focus (first | omega | (simp <;> omega)))))
theorem one_any' (w : World) : Calls Try.prog 93 #[] w fun e w' => e = .returned (.agg #[.int .i64 1, .int .i64 0, .int .i64 0, .int .i64 1]) ∧ Below w.heap.size w w' := by
  go_enter Try.func93, Try.ntmps93
  go_wp2
  refine bodyPost_ret (v := .agg #[.int .i64 1, .int .i64 0, .int .i64 0, .int .i64 1]) (by go_light; simp [results, Try.results93, go_sem, *]) rfl ⟨rfl, ?_⟩
  repeat (first | with_reducible exact Below.refl _ _ | with_reducible assumption | ((with_reducible refine blA ?_ ?_); (focus (first | omega | (simp <;> omega)))) | (with_reducible refine blD ?_) | (with_reducible refine blN ?_) | ((with_reducible refine blS ?_ ?_); (focus (first | omega | (simp <;> omega)))) | ((with_reducible refine blT (by assumption) ?_ ?_); (focus (first | omega | (simp <;> omega)))))
/-- The blocks of the reduction: the form, the two results, the matrix so far. -/
structure RM (w wr : World) (bm : Nat) (f : Fm) (M : Mt) : Prop where
  f : Blk w.heap.size 36 #[.int .i64 f.1, .int .i64 f.2.1, .int .i64 f.2.2] wr
  g : Blk (w.heap.size + 1) 36 #[.int .i64 0, .int .i64 0, .int .i64 0] wr
  h : Blk (w.heap.size + 1 + 1) 40 #[.int .i64 0, .int .i64 0, .int .i64 0, .int .i64 0] wr
  m : Blk bm 40 #[.int .i64 M.1, .int .i64 M.2.1, .int .i64 M.2.2.1, .int .i64 M.2.2.2] wr
  b : Below w.heap.size w wr
  n : w.heap.size + 1 + 1 < bm
theorem RM.below {w wr w' : World} {bm : Nat} {f : Fm} {M : Mt} (h : RM w wr bm f M) (hb : Below wr.heap.size wr w') : RM w w' bm f M :=
  ⟨h.f.below hb, h.g.below hb, h.h.below hb, h.m.below hb, h.b.trans (hb.mono h.b.size), h.n⟩
theorem RM.alloc {w wr : World} {bm : Nat} {f : Fm} {M : Mt} (h : RM w wr bm f M) (o : Obj) : RM w (wr.alloc o) bm f M :=
  ⟨h.f.alloc o, h.g.alloc o, h.h.alloc o, h.m.alloc o, h.b.alloc (by have := h.b.size; omega) _, h.n⟩
end Go.Proofs.Ytemnkfigjpphgaa
