/-
  How an argument that is a slice of points is opened.
-/
import Derived.Test.YtdeboabifcpdbaaPtI
import Derived.Test.YtdeboabifcpdbaaFrame
import Derived.Deep.SlicePairs
namespace Go.Proofs.Ytdeboabifcpdbaa
open Go.ChangeShapes Go.WideShapes Go.ChangeAt Go.RowKit
theorem points_arg {H : Type} {enc : TypeId × Value → H} {w : World} {base : Nat} {spare : Nat → Bool} {held : Bool} {fuel : Nat} {a : Option Addr} {len cap : Nat} {x : DataW H × List MemPlace}
    (h : DataW.trod enc Try.prog w base spare held fuel 66 (Value.slice a len cap).cells.toList = some x) :
    len ≤ cap ∧ cap ≤ maxLen ∧ ∃ zs, PArg w a len zs ∧ ∀ g ∈ zs, I64 g.1 ∧ I64 g.2 := by
  rcases Go.Deep.open_slice_pairs Try.underlying66 Try.underlying34 (by kernel_rfl) rfl rfl (by kernel_rfl) (by kernel_rfl) h with ⟨hcs, _⟩ | ⟨ad, len', cap', m, n, V0, V1, D0, D1, P0, P1, hcs, _, hl, hm, hmm, _, hc⟩
  · simp [Value.cells] at hcs
    obtain ⟨rfl, rfl, rfl⟩ := hcs
    exact ⟨Nat.le_refl _, by unfold maxLen; omega, [], ⟨rfl, .inl rfl⟩, by simp⟩
  · simp [Value.cells] at hcs
    obtain ⟨rfl, rfl, rfl⟩ := hcs
    have hlm : len ≤ m := by rw [hmm]; split <;> omega
    have key : ∀ i, i < len → ∃ z : Int × Int, w.cell? (ad.add (i * 2)) = some (.int .i64 z.1) ∧ w.cell? (ad.add (i * 2 + 1)) = some (.int .i64 z.2) ∧ I64 z.1 ∧ I64 z.2 := by
      intro i hi
      obtain ⟨h0, h1, t0, t1⟩ := hc i (by omega)
      obtain ⟨n0, e0, _, w0⟩ := DataW.trod_int Try.underlying3 t0
      obtain ⟨n1, e1, _, w1⟩ := DataW.trod_int Try.underlying3 t1
      simp at e0 e1
      exact ⟨(n0, n1), by rw [h0, e0], by rw [h1, e1], bounds_i64 w0, bounds_i64 w1⟩
    obtain ⟨f, hf⟩ := Go.Deep.choose_lt key
    refine ⟨hl, hm, (List.range len).map f, ⟨by simp, ?_⟩, ?_⟩
    · rcases Nat.eq_zero_or_pos len with h0 | h0
      · exact .inl h0
      · refine .inr ⟨ad, rfl, ?_, fun k hk => ?_⟩
        · have := World.block_lt_of_cell? w _ (hf 0 h0).1
          rwa [add_block] at this
        · obtain ⟨g1, g2, _⟩ := hf k hk
          have e : ((List.range len).map f).getD k (0, 0) = f k := by simp [List.getD_eq_getElem?_getD, hk]
          rw [e]
          exact ⟨g1, g2⟩
    · intro g hg
      obtain ⟨k, hk, rfl⟩ := List.mem_map.1 hg
      exact (hf k (List.mem_range.1 hk)).2.2
end Go.Proofs.Ytdeboabifcpdbaa
