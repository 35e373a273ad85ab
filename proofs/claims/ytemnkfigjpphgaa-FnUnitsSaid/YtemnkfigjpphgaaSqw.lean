/-
  The square root of a float, called.
-/
import Derived.Test.YtemnkfigjpphgaaSqf
import Derived.Test.YtemnkfigjpphgaaPell
import Derived.Laws.Externs
namespace Go.Proofs.Ytemnkfigjpphgaa
open Go.RowKit
attribute [local simp, local go_sem] past_cell past_frozen past_tape
theorem call_sqrt (x r : Nat) (h : FloatKind.f64.format.sqrt x = some r) (W : World) : (callFunc 125 #[.float .f64 x]).run Try.prog W = .ok (.value (.float .f64 r)) W := by
  rw [run_callFunc_extern (e := Extern.MathSqrt.sqrt) Try.func125 (by kernel_rfl) (by kernel_rfl) (by kernel_rfl) (by kernel_rfl)]
  change (Sem.run Try.prog (match FloatKind.f64.format.sqrt x with | some r => (pure (Value.float .f64 r) : Sem Value) | none => (do pure (Value.float .f64 (← choose (Question.nanBits .f64 x x))) : Sem Value)) W).andThen _ = _
  rw [h]
  rfl
set_option maxHeartbeats 4000000 in
theorem mathSqrt_any (n : Nat) (w : World) (h0 : 0 < n) (hn : n < 2 ^ 52) :
    Calls Try.prog 105 #[.float .f64 (floatOfInt .f64 (n : Int))] w fun e w' => (∃ r z, e = .returned (.float .f64 r) ∧ floatToIntVal .f64 r .i64 = some z ∧ 0 ≤ z ∧ z ≤ 134217728 ∧ ∀ t : Nat, t * t = n → z = t) ∧ w' = w := by
  obtain ⟨r, z, hr, hz, z0, z1, ht⟩ := sqrt_law n h0 hn
  have hcall := call_sqrt _ _ hr
  generalize floatOfInt .f64 (n : Int) = x at *
  go_enter Try.func105, Try.ntmps105
  go_wp2
  go_ret
  exact ⟨⟨r, z, rfl, hz, z0, z1, ht⟩, rfl⟩
end Go.Proofs.Ytemnkfigjpphgaa
