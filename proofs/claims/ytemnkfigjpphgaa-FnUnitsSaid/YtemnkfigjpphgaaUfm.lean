/-
  The product of a matrix with entries up to 10^9 and a small one.
-/
import Derived.Test.YtemnkfigjpphgaaIrc
namespace Go.Proofs.Ytemnkfigjpphgaa
open Go.RowKit
attribute [local simp, local go_sem] past_cell past_frozen past_tape
theorem wsumW {a b c d : Int} (ha : (a.natAbs : Int) ≤ 1000000000) (hb : (b.natAbs : Int) ≤ 1000000) (hc : (c.natAbs : Int) ≤ 1000000000) (hd : (d.natAbs : Int) ≤ 1000000) : wrap64 (wrap64 (a * b) + wrap64 (c * d)) = a * b + c * d := by
  obtain ⟨x1, x2⟩ := mul_bd (bd_iff.2 ha) (bd_iff.2 hb) (show (1000000000 : Int) * 1000000 ≤ 1000000000000000 by decide)
  obtain ⟨x3, x4⟩ := mul_bd (bd_iff.2 hc) (bd_iff.2 hd) (show (1000000000 : Int) * 1000000 ≤ 1000000000000000 by decide)
  rw [wS (x := a * b) ⟨by omega, by omega⟩, wS (x := c * d) ⟨by omega, by omega⟩, wS ⟨by omega, by omega⟩]
theorem foMul_wide (M N : Mt) (w : World) (h : mle 1000000000 M) (k : mle 1000000 N) :
    Calls Try.prog 80 #[.agg #[.int .i64 M.1, .int .i64 M.2.1, .int .i64 M.2.2.1, .int .i64 M.2.2.2], .agg #[.int .i64 N.1, .int .i64 N.2.1, .int .i64 N.2.2.1, .int .i64 N.2.2.2]] w fun en w' => en = .returned (.agg #[.int .i64 ((mm M N).1), .int .i64 ((mm M N).2.1), .int .i64 ((mm M N).2.2.1), .int .i64 ((mm M N).2.2.2)]) ∧ Below w.heap.size w w' := by
  obtain ⟨h1, h2, h3, h4⟩ := h
  obtain ⟨k1, k2, k3, k4⟩ := k
  have e1 := wsumW h1 k1 h2 k3
  have e2 := wsumW h1 k2 h2 k4
  have e3 := wsumW h3 k1 h4 k3
  have e4 := wsumW h3 k2 h4 k4
  obtain ⟨a, b, c, d⟩ := M
  obtain ⟨p, q, r, s⟩ := N
  simp only [mm] at *
  rw [← e1, ← e2, ← e3, ← e4]
  clear e1 e2 e3 e4 h1 h2 h3 h4 k1 k2 k3 k4
  go_enter Try.func80, Try.ntmps80
  go_wp2
  refine bodyPost_ret (v := .agg #[.int .i64 (wrap64 (wrap64 (a * p) + wrap64 (b * r))), .int .i64 (wrap64 (wrap64 (a * q) + wrap64 (b * s))), .int .i64 (wrap64 (wrap64 (c * p) + wrap64 (d * r))), .int .i64 (wrap64 (wrap64 (c * q) + wrap64 (d * s)))]) (by go_light; simp [results, Try.results80, go_sem, *]) rfl ⟨rfl, ?_⟩
  repeat (first | with_reducible exact Below.refl _ _ | with_reducible assumption | ((with_reducible refine blA ?_ ?_); (focus (first | omega | (simp <;> omega)))) | (with_reducible refine blD ?_) | (with_reducible refine blN ?_) | ((with_reducible refine blS ?_ ?_); (focus (first | omega | (simp <;> omega)))) | ((with_reducible refine blT (by assumption) ?_ ?_); (focus (first | omega | (simp <;> omega)))))
end Go.Proofs.Ytemnkfigjpphgaa
