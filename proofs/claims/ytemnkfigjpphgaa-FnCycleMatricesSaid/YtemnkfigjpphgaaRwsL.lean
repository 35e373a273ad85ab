/-
  What the laws do with lists: comparing, marking, looking at the marks. Printed by mkrows.py.
-/
import Derived.Test.YtemnkfigjpphgaaRws
namespace Go.Proofs.Ytemnkfigjpphgaa
open Go.RowKit
attribute [local simp, local go_sem] past_cell past_frozen past_tape
def c1 (x : Int) : List Value := [.int .i64 x]
def c3 (x : Int × Int × Int) : List Value := [.int .i64 x.1, .int .i64 x.2.1, .int .i64 x.2.2]
def c4 (x : Int × Int × Int × Int) : List Value := [.int .i64 x.1, .int .i64 x.2.1, .int .i64 x.2.2.1, .int .i64 x.2.2.2]
theorem c1_len (x : Int) : (c1 x).length = 1 := rfl
theorem c3_len (x : Int × Int × Int) : (c3 x).length = 3 := rfl
theorem c4_len (x : Int × Int × Int × Int) : (c4 x).length = 4 := rfl
theorem c1_one (x : Int) : ∀ u ∈ c1 x, u.oneCell' = true := by intro u hu; simp [c1] at hu; subst hu; rfl
theorem c3_one (x : Int × Int × Int) : ∀ u ∈ c3 x, u.oneCell' = true := by intro u hu; simp [c3] at hu; rcases hu with rfl | rfl | rfl <;> rfl
theorem c4_one (x : Int × Int × Int × Int) : ∀ u ∈ c4 x, u.oneCell' = true := by intro u hu; simp [c4] at hu; rcases hu with rfl | rfl | rfl | rfl <;> rfl
theorem get_some {α : Type} {l : List α} {k n : Nat} (hn : l.length = n) (h : k < n) : ∃ x, l[k]? = some x := ⟨_, List.getElem?_eq_getElem (hn ▸ h)⟩
theorem below_of_grown {B : Nat} {a b c : World} {row : Option Nat} (h : Below B a b) (hg : b.grownBy c row) (hB : B ≤ b.heap.size) (hr : ∀ k, row = some k → B ≤ k) : Below B a c := h.grown hg hB hr
theorem grown_then {a b c : World} {row : Option Nat} (h : a.grownBy b row) (k : b.grownBy c row) : a.grownBy c row :=
  ⟨k.os.trans h.os, k.tape.trans h.tape, k.output.trans h.output, Nat.le_trans h.size k.size, fun i hi hr => (k.block i (Nat.lt_of_lt_of_le hi h.size) hr).trans (h.block i hi hr)⟩
theorem app_int {ops : Array Oper} {rest : List Oper} {o : Oper} {a : Act} {Q : Exit → Act → World → Prop} {w : World} {B : Nat} {v : Value} {l : List (Int)} (hown : Rw B 3 1 c1 w v l) (hgd : o.guard = none) (sl x : Operand) (T : TypeId)
    (ho : o.op = .call { callee := .builtin .append, args := #[sl, x], argTypes := #[T, T] }) (ht : Try.prog.underlying T = some (.slice 3)) (hv : a.eval sl = v) (h : Nat) (y : Int) (hx : a.eval x = .slice (some ⟨h, 0, none⟩) 1 1)
    (hh : w.heap[h]? = some (.cells #[.int .i64 y] 3 (0, 0))) (hl : l.length ≤ 1000000) (hB : B ≤ w.heap.size)
    (K : ∀ v' w', Rw B 3 1 c1 w' v' (l ++ [y]) → w.grownBy w' v.ownBlock → (v'.ownBlock = v.ownBlock ∨ v'.ownBlock = some w.heap.size) → wpList Try.prog ops Q rest (a.put o.dst v') w') : wpList Try.prog ops Q (o :: rest) a w :=
  app_rw w hgd sl x T ho ht (.int .i64 0) 8 (by kernel_rfl) rfl (by decide) (by decide) c1_len c1_one v l hv hown h y hx hh hl hB K
theorem app_matrix {ops : Array Oper} {rest : List Oper} {o : Oper} {a : Act} {Q : Exit → Act → World → Prop} {w : World} {B : Nat} {v : Value} {l : List (Int × Int × Int × Int)} (hown : Rw B 40 4 c4 w v l) (hgd : o.guard = none) (sl x : Operand) (T : TypeId)
    (ho : o.op = .call { callee := .builtin .append, args := #[sl, x], argTypes := #[T, T] }) (ht : Try.prog.underlying T = some (.slice 40)) (hv : a.eval sl = v) (h : Nat) (y : Int × Int × Int × Int) (hx : a.eval x = .slice (some ⟨h, 0, none⟩) 1 1)
    (hh : w.heap[h]? = some (.cells #[.int .i64 y.1, .int .i64 y.2.1, .int .i64 y.2.2.1, .int .i64 y.2.2.2] 40 (0, 0))) (hl : l.length ≤ 1000000) (hB : B ≤ w.heap.size)
    (K : ∀ v' w', Rw B 40 4 c4 w' v' (l ++ [y]) → w.grownBy w' v.ownBlock → (v'.ownBlock = v.ownBlock ∨ v'.ownBlock = some w.heap.size) → wpList Try.prog ops Q rest (a.put o.dst v') w') : wpList Try.prog ops Q (o :: rest) a w :=
  app_rw w hgd sl x T ho ht (.agg #[.int .i64 0, .int .i64 0, .int .i64 0, .int .i64 0]) 32 (by kernel_rfl) rfl (by decide) (by decide) c4_len c4_one v l hv hown h y hx hh hl hB K
end Go.Proofs.Ytemnkfigjpphgaa
