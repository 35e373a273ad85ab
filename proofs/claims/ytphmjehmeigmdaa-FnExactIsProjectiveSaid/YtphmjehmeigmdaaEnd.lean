/-
  The ends of walks whose results lie behind many calls.
-/
import Derived.Test.YtphmjehmeigmdaaBase
namespace Go.Proofs.Ytphmjehmeigmdaa
open Go.RowKit
theorem bG {B : Nat} {W w1 : World} (hb : Below B W w1) {b o : Nat} (h : b < B) : w1.cell? ⟨b, o, none⟩ = W.cell? ⟨b, o, none⟩ := hb.cell (p := ⟨b, o, none⟩) h
theorem fG {B : Nat} {W w1 : World} (hb : Below B W w1) {b o : Nat} (h : b < B) : w1.frozen? ⟨b, o, none⟩ = W.frozen? ⟨b, o, none⟩ := hb.frozen (p := ⟨b, o, none⟩) h
theorem isSome_of {w : World} {a : Addr} {v : Option Value} (h : w.cell? a = v) (hv : v.isSome = true) : (w.cell? a).isSome = true := by rw [h]; exact hv
end Go.Proofs.Ytphmjehmeigmdaa
