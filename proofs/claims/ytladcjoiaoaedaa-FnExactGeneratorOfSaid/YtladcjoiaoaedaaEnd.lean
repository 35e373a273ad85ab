/-
  The ends of walks whose results lie behind many calls.
-/
import Derived.Test.YtladcjoiaoaedaaBase
namespace Go.Proofs.Ytladcjoiaoaedaa
open Go.RowKit
theorem bG {B : Nat} {W w1 : World} (hb : Below B W w1) {b o : Nat} (h : b < B) : w1.cell? ⟨b, o, none⟩ = W.cell? ⟨b, o, none⟩ := hb.cell (p := ⟨b, o, none⟩) h
theorem fG {B : Nat} {W w1 : World} (hb : Below B W w1) {b o : Nat} (h : b < B) : w1.frozen? ⟨b, o, none⟩ = W.frozen? ⟨b, o, none⟩ := hb.frozen (p := ⟨b, o, none⟩) h
theorem set_other (w : World) (b i b' i' : Nat) (v : Value) (h : b ≠ b' ∨ i ≠ i') : (w.setCell ⟨b, i, none⟩ v).cell? ⟨b', i', none⟩ = w.cell? ⟨b', i', none⟩ :=
  World.cell?_setCell_other _ _ _ _ fun e => by
    injection e with e1 e2
    omega
theorem set_same (w : World) (b i : Nat) (v u : Value) (h : w.cell? ⟨b, i, none⟩ = some u) : (w.setCell ⟨b, i, none⟩ v).cell? ⟨b, i, none⟩ = some v := World.cell?_setCell_same _ _ _ h
theorem isSome_of {w : World} {a : Addr} {v : Option Value} (h : w.cell? a = v) (hv : v.isSome = true) : (w.cell? a).isSome = true := by rw [h]; exact hv
end Go.Proofs.Ytladcjoiaoaedaa
