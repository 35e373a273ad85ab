/-
  A list of integers as a law's argument.
-/
import Derived.Test.YtdahpjbpcdfhkaaSer
import Derived.Test.YtdahpjbpcdfhkaaFrame
import Derived.ChangeSlices
namespace Go.Proofs.Ytdahpjbpcdfhkaa
open Go.RowKit Go.ChangeShapes Go.WideShapes Go.ChangeAt
theorem nums_arg {H : Type} {enc : TypeId × Value → H} {w : World} {base : Nat} {spare : Nat → Bool} {held : Bool} {fuel : Nat} {a : Option Addr} {len cap : Nat} {x : DataW H × List MemPlace}
    (h : DataW.trod enc Try.prog w base spare held fuel 22 (Value.slice a len cap).cells.toList = some x) :
    len ≤ cap ∧ cap ≤ maxLen ∧ ∃ zs, IArg w a len zs := by
  rcases open_ints Try.underlying22 Try.underlying3 (by kernel_rfl) h with ⟨hcs, _⟩ | ⟨ad, l, c, zs, hcs, _, hl, hm, hz, _, hcell, _⟩
  · simp [Value.cells] at hcs
    obtain ⟨rfl, rfl, rfl⟩ := hcs
    exact ⟨Nat.le_refl _, by unfold maxLen; omega, [], rfl, .inl rfl⟩
  · simp [Value.cells] at hcs
    obtain ⟨rfl, rfl, rfl⟩ := hcs
    have hlz : len ≤ zs.length := by rw [hz]; split <;> omega
    refine ⟨hl, hm, zs.take len, by simp; omega, ?_⟩
    rcases Nat.eq_zero_or_pos len with h0 | h0
    · exact .inl h0
    · refine .inr ⟨ad, rfl, ?_, fun k x hk => ?_⟩
      · have := World.block_lt_of_cell? w _ (hcell 0 (by omega))
        rwa [add_blk] at this
      · obtain ⟨hk1, hk2⟩ := List.getElem?_eq_some_iff.1 hk
        have hk3 : k < len := by simp at hk1; omega
        rw [hcell k (by omega)]
        rw [List.getElem_take] at hk2
        rw [List.getD_eq_getElem?_getD, List.getElem?_eq_getElem (by omega), hk2]
        rfl
end Go.Proofs.Ytdahpjbpcdfhkaa
