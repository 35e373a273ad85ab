/-
  Rows of integers that a call makes whole and then fills.
-/
import Derived.Test.YtdahpjbpcdfhkaaRwsL
namespace Go.Proofs.Ytdahpjbpcdfhkaa
open Go.RowKit
attribute [local simp, local go_sem] past_cell past_frozen past_tape
def fnL (n : Nat) (f : Nat → Int) : List Int := (List.range n).map f
theorem fnL_len (n : Nat) (f : Nat → Int) : (fnL n f).length = n := by simp [fnL]
theorem fnL_get {n : Nat} {f : Nat → Int} {j : Nat} (h : j < n) : (fnL n f)[j]? = some (f j) := by simp [fnL, h]
theorem fnL_congr {n : Nat} {f g : Nat → Int} (h : ∀ j, j < n → f j = g j) : fnL n f = fnL n g := List.map_congr_left fun j hj => h j (List.mem_range.1 hj)
theorem flat_c1' (l : List Int) : l.flatMap c1 = l.map (.int .i64) := by
  induction l with
  | nil => rfl
  | cons x l ih => simp [c1] at ih ⊢; exact ih
/-- A row of n integers from block g on, cell j holds f j. -/
def Fil (B : Nat) (w : World) (g n : Nat) (f : Nat → Int) : Prop := Rw B 3 1 c1 w (.slice (some ⟨g, 0, none⟩) n n) (fnL n f)
section
variable {B g n : Nat} {f f' : Nat → Int} {w w' : World}
theorem Fil.rw (h : Fil B w g n f) : w.ownsRow B 3 1 (.slice (some ⟨g, 0, none⟩) n n) n ((fnL n f).map (.int .i64)) := by
  have h' := h
  unfold Fil Rw at h'
  rw [fnL_len, flat_c1'] at h'
  exact h'
theorem Fil.of (h : w.ownsRow B 3 1 (.slice (some ⟨g, 0, none⟩) n n) n ((fnL n f).map (.int .i64))) : Fil B w g n f := by
  unfold Fil Rw
  rw [fnL_len, flat_c1']
  exact h
theorem Fil.made (h : w.ownsRow B 3 1 (.slice (some ⟨g, 0, none⟩) n n) n (madeCells (.int .i64 0 : Value).cells (n * 1)).toList) : Fil B w g n (fun _ => 0) := by
  refine Fil.of ?_
  have e : (madeCells (.int .i64 0 : Value).cells (n * 1)).toList = (fnL n (fun _ => 0)).map (.int .i64) := by
    rw [Nat.mul_one]
    show (madeCells #[.int .i64 0] n).toList = _
    rw [toList_madeCells_one]
    apply List.ext_getElem?
    intro j
    simp only [fnL, List.getElem?_map, List.getElem?_replicate, List.map_map]
    by_cases hj : j < n
    · simp [hj]
    · simp [hj]
  rw [← e]
  exact h
theorem Fil.congr (h : Fil B w g n f) (e : ∀ j, j < n → f j = f' j) : Fil B w g n f' := by
  unfold Fil at h ⊢
  rwa [← fnL_congr e]
theorem Fil.cell (h : Fil B w g n f) {j : Nat} (hj : j < n) : w.cell? ⟨g, j, none⟩ = some (.int .i64 (f j)) := by
  rw [h.rw.cellAt j (by omega), List.getElem?_map, fnL_get hj]
  rfl
theorem Fil.frozen (h : Fil B w g n f) (j : Nat) : w.frozen? ⟨g, j, none⟩ = false := h.rw.frozenAt j
theorem Fil.lt (h : Fil B w g n f) : B ≤ g ∧ g < w.heap.size := Rw.lt h g rfl
theorem Fil.later (h : Fil B w g n f) (hb : Below w.heap.size w w') : Fil B w' g n f := Rw.later h hb
theorem Fil.set (h : Fil B w g n f) (j : Nat) (x : Int) : Fil B (w.setCell ⟨g, j, none⟩ (.int .i64 x)) g n (fun i => if i = j then x else f i) := by
  refine Fil.of ?_
  have := (h.rw.stored j (.int .i64 x)).1
  have e : ((fnL n f).map (Value.int .i64)).set j (Value.int .i64 x) = (fnL n (fun i => if i = j then x else f i)).map (Value.int .i64) := by
    apply List.ext_getElem?
    intro i
    by_cases hij : i = j
    · subst hij
      by_cases hi : i < n
      · rw [List.getElem?_set_self (by simp [fnL, hi]), List.getElem?_map, fnL_get hi]
        simp
      · rw [List.getElem?_eq_none (by simp [fnL]; omega), List.getElem?_eq_none (by simp [fnL]; omega)]
    · rw [List.getElem?_set_ne (fun e => hij e.symm), List.getElem?_map, List.getElem?_map]
      by_cases hi : i < n
      · rw [fnL_get hi, fnL_get hi, if_neg hij]
      · rw [List.getElem?_eq_none (by simp [fnL]; omega), List.getElem?_eq_none (by simp [fnL]; omega)]
  rw [← e]
  exact this
end
end Go.Proofs.Ytdahpjbpcdfhkaa
