/-
  A slice of bytes as a law's argument.
-/
import Derived.Test.YtemnkfigjpphgaaCur
import Derived.Test.YtemnkfigjpphgaaFrame
import Derived.ChangeSlices
namespace Go.Proofs.Ytemnkfigjpphgaa
open Go.RowKit Go.ChangeShapes Go.WideShapes Go.ChangeAt
theorem bytes_arg {H : Type} {enc : TypeId × Value → H} {w : World} {base : Nat} {spare : Nat → Bool} {held : Bool} {fuel : Nat} {a : Option Addr} {len cap : Nat} {x : DataW H × List MemPlace}
    (h : DataW.trod enc Try.prog w base spare held fuel 22 (Value.slice a len cap).cells.toList = some x) :
    len ≤ cap ∧ cap ≤ maxLen ∧ CodeOk w.heap.size w a len := by
  rcases open_ints Try.underlying22 Try.underlying5 (by kernel_rfl) h with ⟨hcs, _⟩ | ⟨ad, l, c, zs, hcs, _, hl, hm, hz, _, hcell, hwf⟩
  · simp [Value.cells] at hcs
    obtain ⟨rfl, rfl, rfl⟩ := hcs
    exact ⟨Nat.le_refl _, by unfold maxLen; omega, .inl rfl⟩
  · simp [Value.cells] at hcs
    obtain ⟨rfl, rfl, rfl⟩ := hcs
    have hlz : len ≤ zs.length := by rw [hz]; split <;> omega
    refine ⟨hl, hm, ?_⟩
    rcases Nat.eq_zero_or_pos len with h0 | h0
    · exact .inl h0
    · have hc0 := hcell 0 (by omega)
      have hb := World.block_lt_of_cell? w _ hc0
      obtain ⟨b, o, sp⟩ := ad
      have hsp : sp = none := by
        cases sp with
        | none => rfl
        | some k =>
          simp only [Addr.add, if_true] at hc0
          unfold World.cell? at hc0
          simp only [Option.isSome_some, if_true] at hc0
          split at hc0 <;> cases hc0
      subst hsp
      refine .inr ⟨b, o, rfl, by simpa [Addr.add] using hb, by simpa [Addr.add] using hb, fun i hi => ?_⟩
      have hci := hcell i (by omega)
      have hadd : (⟨b, o, none⟩ : Addr).add i = ⟨b, o + i, none⟩ := by
        unfold Addr.add
        split
        · next h => rw [h]; rfl
        · rfl
      rw [hadd] at hci
      refine ⟨_, hci, ?_⟩
      have hmem : zs.getD i 0 ∈ zs := by
        rw [List.getD_eq_getElem?_getD, List.getElem?_eq_getElem (show i < zs.length by omega)]
        exact List.getElem_mem _
      have hw := hwf _ hmem
      generalize zs.getD i 0 = z at *
      have hw2 : IntKind.u8.min ≤ z ∧ z ≤ IntKind.u8.max := by simpa [Lit.wf] using hw
      have e1 : IntKind.u8.min = 0 := by decide
      have e2 : IntKind.u8.max = 255 := by decide
      rw [e1, e2] at hw2
      exact hw2
def bigB (n k : Nat) : Bool := decide (1048576 < (n : Int)) || decide (1048576 - (n : Int) < (k : Int))
theorem big_any (a a' : Option Addr) (n c k c' : Nat) (w : World) (hn : n ≤ 9223372036854775807) (hk : k ≤ 9223372036854775807) : Calls Try.prog 6 #[.slice a n c, .slice a' k c'] w fun en w' => en = .returned (.bool (bigB n k)) ∧ Below w.heap.size w w' := by
  by_cases h : 1048576 < (n : Int)
  · have hb : bigB n k = true := by simp [bigB]; omega
    rw [hb]
    have h' : decide (1048576 < (n : Int)) = true := decide_eq_true h
    go_enter Try.func6, Try.ntmps6
    go_wp2
    go_ret
    refine ⟨rfl, ?_⟩
    repeat (first | with_reducible exact Below.refl _ _ | with_reducible assumption | ((with_reducible refine blA ?_ ?_); (focus (first | omega | (simp <;> omega)))) | (with_reducible refine blD ?_) | (with_reducible refine blN ?_) | ((with_reducible refine blS ?_ ?_); (focus (first | omega | (simp <;> omega)))) | ((with_reducible refine blT (by assumption) ?_ ?_); (focus (first | omega | (simp <;> omega)))))
  · have hb : bigB n k = decide (1048576 - (n : Int) < (k : Int)) := by simp [bigB]; omega
    rw [hb]
    have h' : decide (1048576 < (n : Int)) = false := decide_eq_false h
    have hw : wrap64 (1048576 - (n : Int)) = 1048576 - n := by unfold wrap64; omega
    go_enter Try.func6, Try.ntmps6
    go_wp2
    go_ret
    refine ⟨rfl, ?_⟩
    repeat (first | with_reducible exact Below.refl _ _ | with_reducible assumption | ((with_reducible refine blA ?_ ?_); (focus (first | omega | (simp <;> omega)))) | (with_reducible refine blD ?_) | (with_reducible refine blN ?_) | ((with_reducible refine blS ?_ ?_); (focus (first | omega | (simp <;> omega)))) | ((with_reducible refine blT (by assumption) ?_ ?_); (focus (first | omega | (simp <;> omega)))))
end Go.Proofs.Ytemnkfigjpphgaa
