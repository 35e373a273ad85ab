/-
  ActOnCube, and the walk of its law.
-/
import Derived.Test.YtphmjehmeigmdaaActI
import Derived.Test.YtphmjehmeigmdaaActT
namespace Go.Proofs.Ytphmjehmeigmdaa
open Go.RowKit
attribute [local simp, local go_sem] past_cell past_frozen past_tape
def xs8 (x0 x1 x2 x3 x4 x5 x6 x7 : Int) (o : Nat) : Int := match o with | 0 => x0 | 1 => x1 | 2 => x2 | 3 => x3 | 4 => x4 | 5 => x5 | 6 => x6 | _ => x7
def pc1 (o : Nat) : Nat := o
def pc2 (o : Nat) : Nat := match o with | 0 => 0 | 1 => 2 | 2 => 4 | 3 => 6 | 4 => 1 | 5 => 3 | 6 => 5 | _ => 7
def pc3 (o : Nat) : Nat := match o with | 0 => 0 | 1 => 4 | 2 => 1 | 3 => 5 | 4 => 2 | 5 => 6 | 6 => 3 | _ => 7
/-- The cube that a matrix makes. -/
def aC (x : Nat → Int) (i : Nat) (p q r s : Int) : Nat → Int := tuN (ocN (tuN x (i - 1)) p q r s 4) (4 - i)
theorem same1 (x : Nat → Int) (p q r s : Int) (o : Nat) (ho : o < 8) : rcN x pc1 p q r s 4 o = aC x 1 p q r s o := by
  match o, ho with
  | 0, _ => rfl
  | 1, _ => rfl
  | 2, _ => rfl
  | 3, _ => rfl
  | 4, _ => rfl
  | 5, _ => rfl
  | 6, _ => rfl
  | 7, _ => rfl
theorem same2 (x : Nat → Int) (p q r s : Int) (o : Nat) (ho : o < 8) : rcN x pc2 p q r s 4 o = aC x 2 p q r s o := by
  match o, ho with
  | 0, _ => rfl
  | 1, _ => rfl
  | 2, _ => rfl
  | 3, _ => rfl
  | 4, _ => rfl
  | 5, _ => rfl
  | 6, _ => rfl
  | 7, _ => rfl
theorem same3 (x : Nat → Int) (p q r s : Int) (o : Nat) (ho : o < 8) : rcN x pc3 p q r s 4 o = aC x 3 p q r s o := by
  match o, ho with
  | 0, _ => rfl
  | 1, _ => rfl
  | 2, _ => rfl
  | 3, _ => rfl
  | 4, _ => rfl
  | 5, _ => rfl
  | 6, _ => rfl
  | 7, _ => rfl
theorem actAll (x : Nat → Int) (i : Nat) (p q r s : Int) (w : World) (hi1 : 1 ≤ i) (hi2 : i ≤ 3) (hx : ∀ k, B5 (x k)) (hp : Bd 1000000 p) (hq : Bd 1000000 q) (hr : Bd 1000000 r) (hs : Bd 1000000 s) :
    Calls Try.prog 51 #[.agg #[.int .i64 (x 0), .int .i64 (x 1), .int .i64 (x 2), .int .i64 (x 3), .int .i64 (x 4), .int .i64 (x 5), .int .i64 (x 6), .int .i64 (x 7)], .int .i64 (i : Int), .agg #[.int .i64 p, .int .i64 q, .int .i64 r, .int .i64 s]] w fun en w' => en = .returned (.agg #[.int .i64 (aC x i p q r s 0), .int .i64 (aC x i p q r s 1), .int .i64 (aC x i p q r s 2), .int .i64 (aC x i p q r s 3), .int .i64 (aC x i p q r s 4), .int .i64 (aC x i p q r s 5), .int .i64 (aC x i p q r s 6), .int .i64 (aC x i p q r s 7)]) ∧ Below w.heap.size w w' := by
  match i, hi1, hi2 with
  | 1, _, _ =>
    have h := act_any x pc1 1 p q r s w (by decide) (by decide) hx hp hq hr hs (fun w1 => cut1 w1)
    rw [same1 x p q r s 0 (by decide), same1 x p q r s 1 (by decide), same1 x p q r s 2 (by decide), same1 x p q r s 3 (by decide), same1 x p q r s 4 (by decide), same1 x p q r s 5 (by decide), same1 x p q r s 6 (by decide), same1 x p q r s 7 (by decide)] at h
    exact h
  | 2, _, _ =>
    have h := act_any x pc2 2 p q r s w (by decide) (by decide) hx hp hq hr hs (fun w1 => cut2 w1)
    rw [same2 x p q r s 0 (by decide), same2 x p q r s 1 (by decide), same2 x p q r s 2 (by decide), same2 x p q r s 3 (by decide), same2 x p q r s 4 (by decide), same2 x p q r s 5 (by decide), same2 x p q r s 6 (by decide), same2 x p q r s 7 (by decide)] at h
    exact h
  | 3, _, _ =>
    have h := act_any x pc3 3 p q r s w (by decide) (by decide) hx hp hq hr hs (fun w1 => cut3 w1)
    rw [same3 x p q r s 0 (by decide), same3 x p q r s 1 (by decide), same3 x p q r s 2 (by decide), same3 x p q r s 3 (by decide), same3 x p q r s 4 (by decide), same3 x p q r s 5 (by decide), same3 x p q r s 6 (by decide), same3 x p q r s 7 (by decide)] at h
    exact h
end Go.Proofs.Ytphmjehmeigmdaa
