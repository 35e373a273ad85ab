/-
  Appending: rows of two cells an element.
-/
import Derived.Test.YtdeboabifcpdbaaMix
import Derived.Deep.AppendLies
import Derived.OwnWalk
namespace Go.Proofs.Ytdeboabifcpdbaa
open Go.RowKit
attribute [local simp, local go_sem] past_cell past_frozen past_tape
theorem grown_of_below {w w' : World} (h : Below w.heap.size w w') (r : Option Nat) : w.grownBy w' r := ⟨h.os, h.tape, h.output, h.size, fun k hk _ => h.block k hk⟩
def flat (l : List (Int × Int)) : List Value := l.flatMap fun g => [.int .i64 g.1, .int .i64 g.2]
theorem flat_cells (l : List (Int × Int)) (f : Nat → Option Value) (h : ∀ j, j < 2 * l.length → f j = (flat l)[j]?) : ∀ k, k < l.length → f (k * 2) = some (.int .i64 ((l.getD k (0, 0)).1)) ∧ f (k * 2 + 1) = some (.int .i64 ((l.getD k (0, 0)).2)) := by
  induction l generalizing f with
  | nil => intro k hk; simp at hk
  | cons v l ih =>
    intro k hk
    match k, hk with
    | 0, _ => exact ⟨by rw [h 0 (by simp)]; rfl, by rw [h 1 (by simp; omega)]; rfl⟩
    | k + 1, hk =>
      have hk : k < l.length := by simpa using hk
      obtain ⟨h1, h2⟩ := ih (fun j => f (j + 2)) (fun j hj => by rw [h (j + 2) (by simp; omega)]; rfl) k hk
      exact ⟨by rw [show (k + 1) * 2 = k * 2 + 2 by omega]; exact h1, by rw [show (k + 1) * 2 + 1 = k * 2 + 1 + 2 by omega]; exact h2⟩
theorem flat_len (l : List (Int × Int)) : (flat l).length = l.length * 2 := by
  induction l with
  | nil => rfl
  | cons v l ih => simp only [flat, List.flatMap_cons, List.length_append, List.length_cons, List.length_nil] at ih ⊢; omega
/-- Two rows of two elements, one behind the other. -/
theorem append22 {ops : Array Oper} {rest : List Oper} {o : Oper} {a : Act} {Q : Exit → Act → World → Prop} (w : World) (hgd : o.guard = none) (s x : Operand) (t : TypeId)
    (ho : o.op = .call { callee := .builtin .append, args := #[s, x], argTypes := #[t, t] }) (T : TypeId) (ht : Try.prog.underlying t = some (.slice T))
    (hi : (Try.prog.info? T).map (fun i => (i.zero, i.size, i.bytes)) = some (some (.agg #[.int .i64 0, .int .i64 0]), 2, 16)) (g1 g2 : Nat) (p0 p1 p2 p3 q0 q1 q2 q3 : Int)
    (hs : a.eval s = .slice (some ⟨g1, 0, none⟩) 2 2) (hx : a.eval x = .slice (some ⟨g2, 0, none⟩) 2 2)
    (h1 : w.heap[g1]? = some (.cells #[.int .i64 p0, .int .i64 p1, .int .i64 p2, .int .i64 p3] T (0, 0))) (h2 : w.heap[g2]? = some (.cells #[.int .i64 q0, .int .i64 q1, .int .i64 q2, .int .i64 q3] T (0, 0)))
    (h : ∀ g cap w', Below g1 w w' → g < w'.heap.size → (∀ j, j < 8 → w'.cell? ⟨g, j, none⟩ = (#[.int .i64 p0, .int .i64 p1, .int .i64 p2, .int .i64 p3, .int .i64 q0, .int .i64 q1, .int .i64 q2, .int .i64 q3] : Array Value)[j]?) → wpList Try.prog ops Q rest (a.put o.dst (.slice (some ⟨g, 0, none⟩) 4 cap)) w') : wpList Try.prog ops Q (o :: rest) a w := by
  obtain ⟨i, hi1, hz, hsz, hby⟩ := info_parts hi
  have hlt : g1 < w.heap.size := by
    rcases Nat.lt_or_ge g1 w.heap.size with h0 | h0
    · exact h0
    · rw [Array.getElem?_eq_none h0] at h1; cases h1
  refine wpList_append_lies w hgd s x t ho g1 T i (.agg #[.int .i64 0, .int .i64 0]) 2 16 ht hi1 hz hsz hby rfl (by omega) (.slice (some ⟨g1, 0, none⟩) 2 2) 2 [.int .i64 p0, .int .i64 p1, .int .i64 p2, .int .i64 p3] hs ?_
    ⟨g2, 0, none⟩ 2 2 [.int .i64 q0, .int .i64 q1, .int .i64 q2, .int .i64 q3] hx rfl (fun j u hu => World.news_of_block h2 j u hu) ?_ (by omega) (by decide) (by omega) (by omega) _ rfl ?_
  · exact ⟨rfl, .inr ⟨g1, 2, _, rfl, Nat.le_refl _, h1, Nat.le_refl _, by decide, rfl, rfl⟩⟩
  · intro u hu
    simp at hu
    rcases hu with rfl | rfl | rfl | rfl <;> rfl
  · intro g cap w' hown hgrow _ hgl
    refine h g cap w' (Below.grown (Below.refl _ _) hgrow (Nat.le_of_lt hlt) (fun k hk => by simp [Value.ownBlock] at hk; omega)) hgl fun j hj => ?_
    rw [hown.cellAt j (by omega)]
    simp
end Go.Proofs.Ytdeboabifcpdbaa
