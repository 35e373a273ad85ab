/-
  Rows that a call itself makes: lists of integers and of structs of integers. What the laws do with them: comparing, marking, looking at the marks.
-/
import Derived.Test.YtladcjoiaoaedaaMix
import Derived.Test.YtladcjoiaoaedaaEnd
import Derived.Maps.AppendAt
import Derived.Deep.AppendLies
import Derived.OwnWalk
namespace Go.Proofs.Ytladcjoiaoaedaa
open Go.RowKit

section
variable {α : Type} {cs : α → List Value} {s : Nat}
theorem flat_length (hs : ∀ x, (cs x).length = s) (l : List α) : (l.flatMap cs).length = l.length * s := by
  induction l with
  | nil => simp
  | cons x l ih => rw [List.flatMap_cons, List.length_append, ih, hs, List.length_cons, Nat.add_mul]; omega
theorem flat_get (hs : ∀ x, (cs x).length = s) (l : List α) : ∀ (k o : Nat) (x : α), l[k]? = some x → o < s → (l.flatMap cs)[k * s + o]? = (cs x)[o]? := by
  induction l with
  | nil => intro k o x h; simp at h
  | cons y l ih =>
    intro k o x h ho
    rw [List.flatMap_cons]
    cases k with
    | zero =>
      obtain rfl : y = x := by simpa using h
      rw [Nat.zero_mul, Nat.zero_add, List.getElem?_append_left (by rw [hs]; exact ho)]
    | succ k =>
      rw [List.getElem?_append_right (by rw [hs, Nat.add_mul]; omega), hs, show (k + 1) * s + o - s = k * s + o by rw [Nat.add_mul]; omega]
      exact ih k o x (by simpa using h) ho
end

theorem grown_of {w w' : World} (h : Below w.heap.size w w') (r : Option Nat) : w.grownBy w' r := ⟨h.os, h.tape, h.output, h.size, fun k hk _ => h.block k hk⟩

/-- The list lies in a row of the call's own, in a block from B on. -/
def Rw {α : Type} (B : Nat) (t : TypeId) (s : Nat) (cs : α → List Value) (w : World) (v : Value) (l : List α) : Prop := w.ownsRow B t s v l.length (l.flatMap cs)

section
variable {α : Type} {B B' : Nat} {t : TypeId} {cs : α → List Value} {s : Nat} {w w' : World} {v : Value} {l : List α} {a : Option Addr}
theorem Rw.lower (h : Rw B t s cs w v l) (hb : Below B' w w') (hlt : ∀ g, v.ownBlock = some g → g < B') : Rw B t s cs w' v l := by
  refine ⟨h.1, ?_⟩
  rcases h.2 with hn | ⟨g, cap, cur, rfl, hbg, hg, rest⟩
  · exact .inl hn
  · exact .inr ⟨g, cap, cur, rfl, hbg, by rw [hb.block g (hlt g rfl)]; exact hg, rest⟩
theorem Rw.lt (h : Rw B t s cs w v l) : ∀ g, v.ownBlock = some g → B ≤ g ∧ g < w.heap.size := World.ownsRow.lt h
theorem Rw.later (h : Rw B t s cs w v l) (hb : Below w.heap.size w w') : Rw B t s cs w' v l := h.lower hb fun g hg => (h.lt g hg).2
theorem Rw.apart (h : Rw B t s cs w v l) {row : Option Nat} (hg : w.grownBy w' row) (hne : v.ownBlock = none ∨ v.ownBlock ≠ row) : Rw B t s cs w' v l := World.ownsRow.kept h hg hne
theorem Rw.alloc (h : Rw B t s cs w v l) (o : Obj) : Rw B t s cs (w.alloc o) v l := World.ownsRow.alloc h o
theorem Rw.mono (h : Rw B t s cs w v l) (hB : B' ≤ B) : Rw B' t s cs w v l := by
  refine ⟨h.1, ?_⟩
  rcases h.2 with hn | ⟨g, cap, cur, rfl, hbg, rest⟩
  · exact .inl hn
  · exact .inr ⟨g, cap, cur, rfl, Nat.le_trans hB hbg, rest⟩
theorem Rw.nil (B : Nat) (t : TypeId) (s : Nat) (cs : α → List Value) (w : World) : Rw B t s cs w (.slice none 0 0) [] := World.ownsRow_nil _ _ _ _
theorem Rw.empty (hB : B ≤ w.heap.size) : Rw B t s cs (w.alloc (.cells #[] t)) (.slice (some ⟨w.heap.size, 0, none⟩) 0 0) [] :=
  World.ownsRow_made w #[] 0 hB (by decide) (by simp)
theorem Rw.empty2 {g : Nat} (hB : B ≤ g) (hg : w.heap.size = g) : Rw B t s cs (w.alloc (.cells #[] t)) (.slice (some ⟨g, 0, none⟩) 0 0) ([] : List α) := by
  subst hg
  exact Rw.empty hB
/-- What a walk asks of such a row. -/
def Sees (B : Nat) (s : Nat) (cs : α → List Value) (w : World) (a : Option Addr) (l : List α) : Prop :=
  l.length = 0 ∨ ∃ g, a = some ⟨g, 0, none⟩ ∧ B ≤ g ∧ g < w.heap.size ∧ (∀ (k : Nat) (x : α), l[k]? = some x → ∀ o, o < s → w.cell? ⟨g, k * s + o, none⟩ = (cs x)[o]?) ∧ (∀ o, w.frozen? ⟨g, o, none⟩ = false)
theorem Rw.sees (h : Rw B t s cs w v l) (hs : ∀ x, (cs x).length = s) : ∃ a cap, v = .slice a l.length cap ∧ l.length ≤ cap ∧ cap ≤ maxLen ∧ Sees B s cs w a l := by
  rcases h.2 with ⟨hv, h0⟩ | ⟨g, cap, cur, hv, hbg, hg, hnc, hcm, _⟩
  · exact ⟨none, 0, by rw [hv, h0], by omega, by unfold maxLen; omega, .inl h0⟩
  · refine ⟨_, cap, hv, hnc, hcm, .inr ⟨g, rfl, hbg, ?_, fun k x hx o ho => ?_, fun o => ?_⟩⟩
    · exact (h.lt g (by rw [hv]; rfl)).2
    · have hk : k < l.length := by
        rcases Nat.lt_or_ge k l.length with h1 | h1
        · exact h1
        · rw [List.getElem?_eq_none h1] at hx; cases hx
      have h' := h
      unfold Rw at h'
      rw [hv] at h'
      have h1 : k * s + s ≤ l.length * s := by rw [← Nat.succ_mul]; exact Nat.mul_le_mul_right _ hk
      rw [h'.cellAt _ (by omega), flat_get hs l k o x hx ho]
    · have h' := h
      unfold Rw at h'
      rw [hv] at h'
      exact h'.frozenAt o
theorem Rw.seen {n cap : Nat} (h : Rw B t s cs w (.slice a n cap) l) (hs : ∀ x, (cs x).length = s) : Sees B s cs w a l ∧ n = l.length := by
  obtain ⟨a', cap', e, _, _, h1⟩ := h.sees hs
  simp only [Value.slice.injEq] at e
  obtain ⟨rfl, rfl, rfl⟩ := e
  exact ⟨h1, rfl⟩
theorem Sees.below (h : Sees B s cs w a l) (hb : Below w.heap.size w w') : Sees B s cs w' a l := by
  rcases h with h | ⟨g, h1, h2, h3, h4, h5⟩
  · exact .inl h
  · have := hb.size
    exact .inr ⟨g, h1, h2, by omega, fun k x hx o ho => by rw [bG hb h3, h4 k x hx o ho], fun o => by rw [fG hb h3, h5]⟩
/-- Something is appended. -/
theorem app_rw {ops : Array Oper} {rest : List Oper} {o : Oper} {a : Act} {Q : Exit → Act → World → Prop} (w : World) (hgd : o.guard = none) (sl x : Operand) (T : TypeId)
    (ho : o.op = .call { callee := .builtin .append, args := #[sl, x], argTypes := #[T, T] }) (ht : Try.prog.underlying T = some (.slice t))
    (z : Value) (bytes : Nat) (hi : (Try.prog.info? t).map (fun i => (i.zero, i.size, i.bytes)) = some (some z, s, bytes)) (hzs : z.cells.size = s) (hs0 : 0 < s) (hby : bytes ≤ 100) (hs : ∀ x, (cs x).length = s) (ho1 : ∀ x, ∀ u ∈ cs x, u.oneCell' = true)
    (v : Value) (l : List α) (hv : a.eval sl = v) (hown : Rw B t s cs w v l) (h : Nat) (y : α) (hx : a.eval x = .slice (some ⟨h, 0, none⟩) 1 1) (hh : w.heap[h]? = some (.cells (cs y).toArray t (0, 0))) (hl : l.length ≤ 1000000) (hB : B ≤ w.heap.size)
    (K : ∀ v' w', Rw B t s cs w' v' (l ++ [y]) → w.grownBy w' v.ownBlock → (v'.ownBlock = v.ownBlock ∨ v'.ownBlock = some w.heap.size) → wpList Try.prog ops Q rest (a.put o.dst v') w') : wpList Try.prog ops Q (o :: rest) a w := by
  obtain ⟨i, hi1, hz, hsz, hby1⟩ := info_parts hi
  refine wpList_append_own_at w hgd sl x T ho B t i z s bytes ht hi1 hz hsz hby1 hzs hs0 v l.length (l.flatMap cs) hv hown ⟨h, 0, none⟩ 1 1 (cs y) hx (by rw [hs]; omega)
    (fun j u hu => World.news_of_block hh j u (by simpa using hu)) (ho1 y) (by unfold maxLen; omega) ?_ hB ?_
  · have : (l.length + 1) * bytes ≤ 1000001 * 100 := Nat.mul_le_mul (by omega) hby
    omega
  · intro v' w' h1 h2 _ h4
    refine K v' w' ?_ h2 h4
    unfold Rw
    rw [List.length_append, List.flatMap_append]
    simpa using h1
end

/-- A row that has been marked, from k on. -/
def Mk (B : Nat) (t : TypeId) (s : Nat) (w : World) (v : Value) (n : Nat) (k : Int) : Prop := ∃ xs, w.ownsRow B t s v n xs ∧ ∀ j, j < n * s → xs[j]? = some (.int .i64 (k + (j : Int)))
section
variable {B B' : Nat} {t : TypeId} {s : Nat} {w w' : World} {v : Value} {n : Nat} {k : Int}
theorem Mk.lower (h : Mk B t s w v n k) (hb : Below B' w w') (hlt : ∀ g, v.ownBlock = some g → g < B') : Mk B t s w' v n k := by
  obtain ⟨xs, h, hm⟩ := h
  refine ⟨xs, ⟨h.1, ?_⟩, hm⟩
  rcases h.2 with hn | ⟨g, cap, cur, rfl, hbg, hg, rest⟩
  · exact .inl hn
  · exact .inr ⟨g, cap, cur, rfl, hbg, by rw [hb.block g (hlt g rfl)]; exact hg, rest⟩
theorem Mk.lt (h : Mk B t s w v n k) : ∀ g, v.ownBlock = some g → B ≤ g ∧ g < w.heap.size := by
  obtain ⟨xs, h, _⟩ := h
  exact World.ownsRow.lt h
theorem Mk.later (h : Mk B t s w v n k) (hb : Below w.heap.size w w') : Mk B t s w' v n k := h.lower hb fun g hg => (h.lt g hg).2
theorem Mk.apart (h : Mk B t s w v n k) {row : Option Nat} (hg : w.grownBy w' row) (hne : v.ownBlock = none ∨ v.ownBlock ≠ row) : Mk B t s w' v n k := by
  obtain ⟨xs, h, hm⟩ := h
  exact ⟨xs, h.kept hg hne, hm⟩
def MSees (s : Nat) (w : World) (a : Option Addr) (n : Nat) (k : Int) : Prop :=
  n = 0 ∨ ∃ g, a = some ⟨g, 0, none⟩ ∧ g < w.heap.size ∧ ∀ j, j < n * s → w.cell? ⟨g, j, none⟩ = some (.int .i64 (k + (j : Int)))
theorem Mk.sees (h : Mk B t s w v n k) : ∃ a cap, v = .slice a n cap ∧ MSees s w a n k := by
  have hlt := h.lt
  obtain ⟨xs, h, hm⟩ := h
  rcases h.2 with ⟨hv, h0⟩ | ⟨g, cap, cur, hv, hbg, hg, hnc, hcm, _⟩
  · exact ⟨none, 0, by rw [hv, h0], .inl h0⟩
  · refine ⟨_, cap, hv, .inr ⟨g, rfl, (hlt g (by rw [hv]; rfl)).2, fun j hj => ?_⟩⟩
    rw [hv] at h
    rw [h.cellAt j hj, hm j hj]
theorem MSees.below {a : Option Addr} (h : MSees s w a n k) (hb : Below w.heap.size w w') : MSees s w' a n k := by
  rcases h with h | ⟨g, h1, h3, h4⟩
  · exact .inl h
  · have := hb.size
    exact .inr ⟨g, h1, by omega, fun j hj => by rw [bG hb h3, h4 j hj]⟩
end
end Go.Proofs.Ytladcjoiaoaedaa
