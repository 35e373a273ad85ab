/-
  The reference's ways to a lattice's normal form: the walks. Its variables lie in memory.
-/
import Derived.Test.YtdeboabifcpdbaaHermW
namespace Go.Proofs.Ytdeboabifcpdbaa
open Go.RowKit
attribute [local simp, local go_sem] past_cell past_frozen past_tape
/-- One pair of integers in a block of the call's own. -/
structure One (w wr : World) (V : Nat) (X Y : Int) : Prop where
  hV : ∀ o, wr.cell? ⟨V, o, none⟩ = (#[.int .i64 X, .int .i64 Y] : Array Value)[o]?
  hVf : ∀ o, wr.frozen? ⟨V, o, none⟩ = false
  ltV : w.heap.size ≤ V
  sz : V < wr.heap.size
  below : Below w.heap.size w wr
/-- Two of them. -/
structure Two (w wr : World) (V Q : Nat) (X Y u v : Int) : Prop where
  one : One w wr V X Y
  hQ : ∀ o, wr.cell? ⟨Q, o, none⟩ = (#[.int .i64 u, .int .i64 v] : Array Value)[o]?
  hQf : ∀ o, wr.frozen? ⟨Q, o, none⟩ = false
  VQ : V < Q
  sz : Q < wr.heap.size
theorem pair_set (w1 : World) (B : Nat) (a b x y : Int) (h : ∀ o, w1.cell? ⟨B, o, none⟩ = (#[.int .i64 a, .int .i64 b] : Array Value)[o]?) (o : Nat) :
    ((w1.setCell ⟨B, 0, none⟩ (.int .i64 x)).setCell ⟨B, 1, none⟩ (.int .i64 y)).cell? ⟨B, o, none⟩ = (#[.int .i64 x, .int .i64 y] : Array Value)[o]? := by
  match o with
  | 0 => rw [set_other _ _ _ _ _ _ (by omega), set_same _ _ _ _ _ (h 0)]; rfl
  | 1 => rw [set_same _ _ _ _ (.int .i64 b) (by rw [set_other _ _ _ _ _ _ (by omega), h]; rfl)]; rfl
  | n + 2 => rw [set_other _ _ _ _ _ _ (by omega), set_other _ _ _ _ _ _ (by omega), h]; rfl
theorem pair_far (w1 : World) (B C : Nat) (x y : Value) (h : B ≠ C) (o : Nat) : ((w1.setCell ⟨B, 0, none⟩ x).setCell ⟨B, 1, none⟩ y).cell? ⟨C, o, none⟩ = w1.cell? ⟨C, o, none⟩ := by
  rw [set_other _ _ _ _ _ _ (by omega), set_other _ _ _ _ _ _ (by omega)]
theorem One.set {w wr w1 : World} {V : Nat} {X Y : Int} (hB : Below wr.heap.size wr w1) (h : One w wr V X Y) (x y : Int) : One w ((w1.setCell ⟨V, 0, none⟩ (.int .i64 x)).setCell ⟨V, 1, none⟩ (.int .i64 y)) V x y := by
  have hz := hB.size
  have hsz := h.sz
  have hlt := h.ltV
  refine ⟨pair_set w1 V X Y x y fun o => by rw [bG hB hsz, h.hV], fun i => ?_, hlt, by simp; omega, ?_⟩
  · simp [go_sem, fG hB hsz, h.hVf]
  · have hb := h.below
    have hbs := hb.size
    repeat (first | with_reducible exact Below.refl _ _ | with_reducible assumption | ((with_reducible refine blA ?_ ?_); (focus (first | omega | (simp <;> omega)))) | (with_reducible refine blD ?_) | (with_reducible refine blN ?_) | ((with_reducible refine blS ?_ ?_); (focus (first | omega | (simp <;> omega)))) | ((with_reducible refine blT (by assumption) ?_ ?_); (focus (first | omega | (simp <;> omega)))))
theorem One.later {w wr w1 : World} {V : Nat} {X Y : Int} (h : One w wr V X Y) (hB : Below wr.heap.size wr w1) : One w w1 V X Y := by
  have hz := hB.size
  have hsz := h.sz
  refine ⟨fun o => by rw [bG hB hsz, h.hV], fun o => by rw [fG hB hsz, h.hVf], h.ltV, by omega, ?_⟩
  have hb := h.below
  have hbs := hb.size
  repeat (first | with_reducible exact Below.refl _ _ | with_reducible assumption | ((with_reducible refine blA ?_ ?_); (focus (first | omega | (simp <;> omega)))) | (with_reducible refine blD ?_) | (with_reducible refine blN ?_) | ((with_reducible refine blS ?_ ?_); (focus (first | omega | (simp <;> omega)))) | ((with_reducible refine blT (by assumption) ?_ ?_); (focus (first | omega | (simp <;> omega)))))
theorem One.set0 {w wr w1 : World} {V : Nat} {X Y : Int} (hB : Below wr.heap.size wr w1) (h : One w wr V X Y) (x : Int) : One w (w1.setCell ⟨V, 0, none⟩ (.int .i64 x)) V x Y := by
  have hz := hB.size
  have hsz := h.sz
  have hlt := h.ltV
  have hc : ∀ o, w1.cell? ⟨V, o, none⟩ = (#[.int .i64 X, .int .i64 Y] : Array Value)[o]? := fun o => by rw [bG hB hsz, h.hV]
  refine ⟨fun o => ?_, fun i => ?_, hlt, by simp; omega, ?_⟩
  · match o with
    | 0 => rw [set_same _ _ _ _ _ (hc 0)]; rfl
    | n + 1 => rw [set_other _ _ _ _ _ _ (by omega), hc]; rfl
  · simp [go_sem, fG hB hsz, h.hVf]
  · have hb := h.below
    have hbs := hb.size
    repeat (first | with_reducible exact Below.refl _ _ | with_reducible assumption | ((with_reducible refine blA ?_ ?_); (focus (first | omega | (simp <;> omega)))) | (with_reducible refine blD ?_) | (with_reducible refine blN ?_) | ((with_reducible refine blS ?_ ?_); (focus (first | omega | (simp <;> omega)))) | ((with_reducible refine blT (by assumption) ?_ ?_); (focus (first | omega | (simp <;> omega)))))
theorem Two.next {w wr w1 : World} {V Q : Nat} {X Y u v : Int} (hB : Below wr.heap.size wr w1) (h : Two w wr V Q X Y u v) (x y : Int) :
    Two w ((((w1.setCell ⟨V, 0, none⟩ (.int .i64 u)).setCell ⟨V, 1, none⟩ (.int .i64 v)).setCell ⟨Q, 0, none⟩ (.int .i64 x)).setCell ⟨Q, 1, none⟩ (.int .i64 y)) V Q u v x y := by
  have hz := hB.size
  have hsz := h.sz
  have hlt := h.VQ
  have o1 := h.one.set hB u v
  have hlV := h.one.ltV
  refine ⟨⟨fun o => ?_, fun o => ?_, hlV, by simp; omega, ?_⟩, pair_set _ Q u v x y fun o => ?_, fun o => ?_, hlt, by simp; omega⟩
  · rw [pair_far _ _ _ _ _ (by omega), o1.hV]
  · simp [go_sem, fG hB h.one.sz, h.one.hVf]
  · have hb := h.one.below
    have hbs := hb.size
    repeat (first | with_reducible exact Below.refl _ _ | with_reducible assumption | ((with_reducible refine blA ?_ ?_); (focus (first | omega | (simp <;> omega)))) | (with_reducible refine blD ?_) | (with_reducible refine blN ?_) | ((with_reducible refine blS ?_ ?_); (focus (first | omega | (simp <;> omega)))) | ((with_reducible refine blT (by assumption) ?_ ?_); (focus (first | omega | (simp <;> omega)))))
  · rw [pair_far _ _ _ _ _ (by omega), bG hB hsz, h.hQ]
  · simp [go_sem, fG hB hsz, h.hQf]
theorem Two.start {w wr : World} {V : Nat} {X Y : Int} (h : One w wr V X Y) (u v : Int) (T : TypeId) : Two w (wr.alloc (.cells #[.int .i64 u, .int .i64 v] T)) V wr.heap.size X Y u v := by
  have hsz := h.sz
  refine ⟨⟨fun o => ?_, fun o => ?_, h.ltV, by simp; omega, ?_⟩, fun o => by simp [go_sem], fun o => by simp [go_sem], hsz, by simp⟩
  · rw [cell_alloc_old _ _ _ _ hsz, h.hV]
  · rw [frozen_alloc_old _ _ _ _ hsz, h.hVf]
  · have hb := h.below
    have hbs := hb.size
    repeat (first | with_reducible exact Below.refl _ _ | with_reducible assumption | ((with_reducible refine blA ?_ ?_); (focus (first | omega | (simp <;> omega)))) | (with_reducible refine blD ?_) | (with_reducible refine blN ?_) | ((with_reducible refine blS ?_ ?_); (focus (first | omega | (simp <;> omega)))) | ((with_reducible refine blT (by assumption) ?_ ?_); (focus (first | omega | (simp <;> omega)))))
theorem half_bd {n E : Int} (hn : 0 ≤ n) (hE : 1 ≤ E) : 0 ≤ n / (2 * E) ∧ 2 * (n / (2 * E)) ≤ n := by
  have h0 : 0 ≤ n / (2 * E) := Int.ediv_nonneg hn (by omega)
  have h1 := Int.ediv_mul_le n (show 2 * E ≠ 0 by omega)
  have h2 := Int.mul_le_mul_of_nonneg_left (show 2 ≤ 2 * E by omega) h0
  exact ⟨h0, by omega⟩
theorem Two.later {w wr w1 : World} {V Q : Nat} {X Y u v : Int} (h : Two w wr V Q X Y u v) (hB : Below wr.heap.size wr w1) : Two w w1 V Q X Y u v := by
  have hz := hB.size
  have hsz := h.sz
  exact ⟨h.one.later hB, fun o => by rw [bG hB hsz, h.hQ], fun o => by rw [fG hB hsz, h.hQf], h.VQ, by omega⟩
/-- A state's numbers are small. -/
structure GoodS (n U V : Int) : Prop where
  n0 : 0 ≤ n
  n1 : n ≤ 4000000000000000000
  u : K4 U
  v : K4 V
theorem goodS_step {n U V : Int} {v : Int × Int} (h : GoodS n U V) (hf : FitI 0 (n, U, V) v) : GoodS (iStep (n, U, V) v).1 (iStep (n, U, V) v).2.1 (iStep (n, U, V) v).2.2 := by
  obtain ⟨Y, S, M, hS, hI⟩ := hf
  obtain ⟨e1, e2, e3⟩ := fit_end hS hI
  rw [← eucS_eq] at e1 e2 e3
  exact ⟨by show (0 : Int) ≤ (Int.gcd _ _ : Int); omega, gcd_k4 h.n0 h.n1 e3, e1, e2⟩
end Go.Proofs.Ytdeboabifcpdbaa
