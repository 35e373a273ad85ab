/-
  Blocks of the call's own, known whole.
-/
import Derived.Test.YtemnkfigjpphgaaTail
import Derived.Test.YtemnkfigjpphgaaRws
namespace Go.Proofs.Ytemnkfigjpphgaa
open Go.RowKit
/-- A block that holds just these cells. -/
def Blk (b : Nat) (T : TypeId) (cs : Array Value) (w : World) : Prop := w.heap[b]? = some (.cells cs T (0, 0))
section
variable {b : Nat} {T : TypeId} {cs : Array Value} {w w' : World}
theorem Blk.lt (h : Blk b T cs w) : b < w.heap.size := by
  rcases Nat.lt_or_ge b w.heap.size with h1 | h1
  · exact h1
  · unfold Blk at h
    rw [Array.getElem?_eq_none h1] at h; cases h
theorem Blk.lower {B : Nat} (h : Blk b T cs w) (hb : Below B w w') (hB : b < B) : Blk b T cs w' := (hb.block b hB).trans h
theorem Blk.below (h : Blk b T cs w) (hb : Below w.heap.size w w') : Blk b T cs w' := h.lower hb h.lt
theorem Blk.grown {r : Option Nat} (h : Blk b T cs w) (hg : w.grownBy w' r) (hb : some b ≠ r) : Blk b T cs w' := (hg.block b h.lt hb).trans h
theorem Blk.new (w : World) (T : TypeId) (cs : Array Value) : Blk w.heap.size T cs (w.alloc (.cells cs T)) := heap_alloc_new _ _
theorem Blk.alloc (h : Blk b T cs w) (o : Obj) : Blk b T cs (w.alloc o) := by
  unfold Blk
  rw [heap_alloc_old _ _ h.lt]
  exact h
theorem Blk.cell (h : Blk b T cs w) (o : Nat) : w.cell? ⟨b, o, none⟩ = cs[o]? := cell_of_row w b o cs T (0, 0) h
theorem Blk.froz (h : Blk b T cs w) (o : Nat) : w.frozen? ⟨b, o, none⟩ = false := by
  unfold Blk at h
  simp [World.frozen?, h]
theorem Blk.far {c o : Nat} {v : Value} (h : Blk b T cs w) (hb : b ≠ c) : Blk b T cs (w.setCell ⟨c, o, none⟩ v) := by
  unfold Blk at h ⊢
  rw [← h]
  simp [World.setCell, Array.getElem?_modify, Ne.symm hb]
theorem Blk.set1 (h : Blk b T cs w) (i : Nat) (v : Value) : Blk b T (cs.setIfInBounds i v) (w.setCell ⟨b, i, none⟩ v) := by
  unfold Blk at h ⊢
  simp [World.setCell, Array.getElem?_modify, h]
theorem grown_set1 (w : World) (b i : Nat) (v : Value) : w.grownBy (w.setCell ⟨b, i, none⟩ v) (some b) := by
  refine ⟨rfl, rfl, rfl, by simp, fun k hk hne => ?_⟩
  have : b ≠ k := fun e => hne (by rw [e])
  simp [World.setCell, Array.getElem?_modify, this]
theorem Blk.set2 {x y : Value} (h : Blk b T #[x, y] w) (x' y' : Value) :
    ∃ w4, (w.setCell ⟨b, 0, none⟩ x').setCell ⟨b, 1, none⟩ y' = w4 ∧ Blk b T #[x', y'] w4 ∧ w4.heap.size = w.heap.size ∧ w.grownBy w4 (some b) :=
  ⟨_, rfl, ((h.set1 0 x').set1 1 y'), by simp, ((grown_set1 w b 0 x').trans (grown_set1 _ b 1 y'))⟩
theorem Blk.set3 {x y z : Value} (h : Blk b T #[x, y, z] w) (x' y' z' : Value) :
    ∃ w4, ((w.setCell ⟨b, 0, none⟩ x').setCell ⟨b, 1, none⟩ y').setCell ⟨b, 2, none⟩ z' = w4 ∧ Blk b T #[x', y', z'] w4 ∧ w4.heap.size = w.heap.size ∧ w.grownBy w4 (some b) :=
  ⟨_, rfl, (((h.set1 0 x').set1 1 y').set1 2 z'), by simp, ((grown_set1 w b 0 x').trans (grown_set1 _ b 1 y')).trans (grown_set1 _ b 2 z')⟩
theorem Blk.set4 {x y z u : Value} (h : Blk b T #[x, y, z, u] w) (x' y' z' u' : Value) :
    ∃ w4, (((w.setCell ⟨b, 0, none⟩ x').setCell ⟨b, 1, none⟩ y').setCell ⟨b, 2, none⟩ z').setCell ⟨b, 3, none⟩ u' = w4 ∧ Blk b T #[x', y', z', u'] w4 ∧ w4.heap.size = w.heap.size ∧ w.grownBy w4 (some b) :=
  ⟨_, rfl, ((((h.set1 0 x').set1 1 y').set1 2 z').set1 3 u'), by simp, (((grown_set1 w b 0 x').trans (grown_set1 _ b 1 y')).trans (grown_set1 _ b 2 z')).trans (grown_set1 _ b 3 u')⟩
end
/-- What a call leaves of blocks below B, when a block of one's own is written. -/
theorem below_grown {B b : Nat} {w w1 w2 : World} (h : Below B w w1) (hg : w1.grownBy w2 (some b)) (hb : B ≤ b) (hB : B ≤ w1.heap.size) : Below B w w2 :=
  ⟨hg.os.trans h.os, hg.tape.trans h.tape, hg.output.trans h.output, Nat.le_trans h.size hg.size, fun k hk => (hg.block k (by omega) (fun e => by cases e; omega)).trans (h.block k hk)⟩
end Go.Proofs.Ytemnkfigjpphgaa
