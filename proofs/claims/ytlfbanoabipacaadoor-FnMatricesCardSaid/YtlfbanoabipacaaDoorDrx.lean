/-
  The two draws of the law, from bytes that came in.
-/
import Derived.Test.YtlfbanoabipacaaDoorDrm
namespace Go.Proofs.YtlfbanoabipacaaDoor
open Go.RowKit
attribute [local simp, local go_sem] past_cell past_frozen past_tape
theorem gcellx {g : Nat} {w1 w2 : World} (h : w1.grownBy w2 (some g)) : (∀ b o, b ≠ g → b < w1.heap.size → w2.cell? ⟨b, o, none⟩ = w1.cell? ⟨b, o, none⟩) ∧ (∀ b o, b ≠ g → b < w1.heap.size → w2.frozen? ⟨b, o, none⟩ = w1.frozen? ⟨b, o, none⟩) :=
  ⟨fun b o h1 h2 => block_cell (h.block b h2 (fun e => by cases e; exact h1 rfl)), fun b o h1 h2 => block_frozen (h.block b h2 (fun e => by cases e; exact h1 rfl))⟩
/-- A cursor that has just been made. -/
theorem Cur.made {w : World} {a : Option Addr} {len cap : Nat} {t : TypeId} (hc : CodeOk w.heap.size w a len) (hl : len ≤ 140737488355328) : Cur 0 w.heap.size (w.alloc (.cells #[.slice a len cap, .int .i64 0, .int .u64 0] t)) := by
  refine ⟨by simp, a, len, cap, 0, 0, by simp, by simp, by simp, fun o => by simp, by omega, by omega, hl, ?_⟩
  exact hc.keep (by simp) (fun b hb hw => by rw [Below.heap_alloc _ _ _ hw])
theorem CodeOk.up {g g' : Nat} {w w' : World} {a : Option Addr} {len : Nat} (h : CodeOk g w a len) (hg : g ≤ g') (hb : Below w.heap.size w w') : CodeOk g' w' a len := by
  have h2 := h.keep hb.size (fun b _ hw => hb.block b hw)
  rcases h2 with h2 | ⟨b, o, h1, h3, h4⟩
  · exact .inl h2
  · exact .inr ⟨b, o, h1, by omega, h4⟩
set_option maxRecDepth 100000 in
set_option maxHeartbeats 8000000 in
theorem drawIsMatrix_any (a : Option Addr) (len cap : Nat) (w : World) (hc : CodeOk w.heap.size w a len) (hl : len ≤ 140737488355328) :
    Calls Tryd.prog 34 #[.slice a len cap] w fun e w' => (∃ x : Int × Int × Int × Int, e = .returned (.agg #[.int .i64 x.1, .int .i64 x.2.1, .int .i64 x.2.2.1, .int .i64 x.2.2.2]) ∧ (I64 x.1 ∧ I64 x.2.1 ∧ I64 x.2.2.1 ∧ I64 x.2.2.2)) ∧ Below w.heap.size w w' := by
  go_enter Tryd.func34, Tryd.ntmps34
  go_wp2_with fail
  have k0 : Cur 0 (w.heap.size + 1) ((w.alloc (.cells #[.int .i64 0, .int .i64 0, .int .i64 0, .int .i64 0] 36)).alloc (.cells #[.slice a len cap, .int .i64 0, .int .u64 0] 73)) := by
    have h := Cur.made (w := w.alloc (.cells #[.int .i64 0, .int .i64 0, .int .i64 0, .int .i64 0] 36)) (cap := cap) (t := 73) (hc.up (by simp) ((Below.refl _ _).alloc (Nat.le_refl _) _)) hl
    simpa using h
  refine (matrix_any _ (w.heap.size + 1) _ k0 (by omega)).mono ?_
  rintro e1 w1 ⟨⟨⟨p, q, r, s⟩, rfl, p1, q1⟩, k1, g1⟩
  obtain ⟨hC1, hF1⟩ := gcellx g1
  have hS1 := g1.size
  simp at hS1
  have z1 : ∀ o, w1.cell? ⟨w.heap.size, o, none⟩ = (#[.int .i64 0, .int .i64 0, .int .i64 0, .int .i64 0] : Array Value)[o]? := fun o => by rw [hC1 _ _ (by omega) (by simp; omega)]; simp [go_sem]
  have zf1 : ∀ o, w1.frozen? ⟨w.heap.size, o, none⟩ = false := fun o => by rw [hF1 _ _ (by omega) (by simp; omega)]; simp [go_sem]
  clear hC1 hF1
  have hB1 : Below w.heap.size w w1 := below_of_grown (((Below.refl _ _).alloc (Nat.le_refl _) _).alloc (by simp) _) g1 (by simp; omega) (fun k e => by cases e; omega)
  go_wp2_with fail
  refine bodyPost_ret (v := .agg #[.int .i64 p, .int .i64 q, .int .i64 r, .int .i64 s]) (by go_light; simp [results, Tryd.results34, go_sem, *]) rfl ⟨⟨(p, q, r, s), rfl, p1⟩, ?_⟩
  repeat (first | with_reducible exact Below.refl _ _ | with_reducible assumption | ((with_reducible refine blA ?_ ?_); (focus (first | omega | (simp <;> omega)))) | (with_reducible refine blD ?_) | (with_reducible refine blN ?_) | ((with_reducible refine blS ?_ ?_); (focus (first | omega | (simp <;> omega)))) | ((with_reducible refine blT (by assumption) ?_ ?_); (focus (first | omega | (simp <;> omega)))))
theorem drawMatrixInverse_any (a : Option Addr) (len cap : Nat) (w : World) (hc : CodeOk w.heap.size w a len) (hl : len ≤ 140737488355328) :
    Calls Tryd.prog 13 #[.slice a len cap] w fun e w' => (∃ x : Int × Int × Int × Int, e = .returned (.agg #[.int .i64 x.1, .int .i64 x.2.1, .int .i64 x.2.2.1, .int .i64 x.2.2.2]) ∧ (I64 x.1 ∧ I64 x.2.1 ∧ I64 x.2.2.1 ∧ I64 x.2.2.2)) ∧ Below w.heap.size w w' := by
  go_enter Tryd.func13, Tryd.ntmps13
  go_wp2_with fail
  refine (drawIsMatrix_any a len cap _ (hc.up (by simp) ((Below.refl _ _).alloc (Nat.le_refl _) _)) hl).mono ?_
  rintro e1 w1 ⟨⟨⟨p, q, r, s⟩, rfl, p1⟩, hB1⟩
  obtain ⟨hC1, hF1⟩ := bcell hB1
  have hS1 := hB1.size
  simp at hS1
  go_wp2_with fail
  refine bodyPost_ret (v := .agg #[.int .i64 p, .int .i64 q, .int .i64 r, .int .i64 s]) (by go_light; simp [results, Tryd.results13, go_sem, *]) rfl ⟨⟨(p, q, r, s), rfl, p1⟩, ?_⟩
  repeat (first | with_reducible exact Below.refl _ _ | with_reducible assumption | ((with_reducible refine blA ?_ ?_); (focus (first | omega | (simp <;> omega)))) | (with_reducible refine blD ?_) | (with_reducible refine blN ?_) | ((with_reducible refine blS ?_ ?_); (focus (first | omega | (simp <;> omega)))) | ((with_reducible refine blT (by assumption) ?_ ?_); (focus (first | omega | (simp <;> omega)))))
set_option maxRecDepth 100000 in
set_option maxHeartbeats 8000000 in
theorem drawPolarAt_any (a : Option Addr) (len cap : Nat) (w : World) (hc : CodeOk w.heap.size w a len) (hl : len ≤ 140737488355328) :
    Calls Tryd.prog 19 #[.slice a len cap] w fun e w' => (∃ (f : Int × Int × Int) (x : Int × Int × Int × Int), e = .returned (.tuple #[.agg #[.int .i64 f.1, .int .i64 f.2.1, .int .i64 f.2.2], .int .i64 x.1, .int .i64 x.2.1, .int .i64 x.2.2.1, .int .i64 x.2.2.2]) ∧ (I64 f.1 ∧ I64 f.2.1 ∧ I64 f.2.2) ∧ (I64 x.1 ∧ I64 x.2.1 ∧ I64 x.2.2.1 ∧ I64 x.2.2.2)) ∧ Below w.heap.size w w' := by
  go_enter Tryd.func19, Tryd.ntmps19
  go_wp2_with fail
  have k0 : Cur 0 (w.heap.size + 1) ((w.alloc (.cells #[.int .i64 0, .int .i64 0, .int .i64 0] 44)).alloc (.cells #[.slice a len cap, .int .i64 0, .int .u64 0] 73)) := by
    have h := Cur.made (w := w.alloc (.cells #[.int .i64 0, .int .i64 0, .int .i64 0] 44)) (cap := cap) (t := 73) (hc.up (by simp) ((Below.refl _ _).alloc (Nat.le_refl _) _)) hl
    simpa using h
  refine (form_any _ (w.heap.size + 1) _ k0 (by omega)).mono ?_
  rintro e1 w1 ⟨⟨⟨f1, f2, f3⟩, rfl, hf, q1⟩, k1, g1⟩
  obtain ⟨hC1, hF1⟩ := gcellx g1
  have hS1 := g1.size
  simp at hS1
  have z1 : ∀ o, w1.cell? ⟨w.heap.size, o, none⟩ = (#[.int .i64 0, .int .i64 0, .int .i64 0] : Array Value)[o]? := fun o => by rw [hC1 _ _ (by omega) (by simp; omega)]; simp [go_sem]
  have zf1 : ∀ o, w1.frozen? ⟨w.heap.size, o, none⟩ = false := fun o => by rw [hF1 _ _ (by omega) (by simp; omega)]; simp [go_sem]
  have hB1 : Below w.heap.size w w1 := below_of_grown (((Below.refl _ _).alloc (Nat.le_refl _) _).alloc (by simp) _) g1 (by simp; omega) (fun k e => by cases e; omega)
  clear hC1 hF1 k0 g1
  go_wp2_with fail
  refine (matrix_any _ (w.heap.size + 1) _ k1 (by omega)).mono ?_
  rintro e2 w2 ⟨⟨⟨p, q, r, s⟩, rfl, hx, q2⟩, k2, g2⟩
  obtain ⟨hC2, hF2⟩ := gcellx g2
  have hS2 := g2.size
  have z2 : ∀ o, w2.cell? ⟨w.heap.size, o, none⟩ = (#[.int .i64 0, .int .i64 0, .int .i64 0] : Array Value)[o]? := fun o => by rw [hC2 _ _ (by omega) (by omega), z1]
  have zf2 : ∀ o, w2.frozen? ⟨w.heap.size, o, none⟩ = false := fun o => by rw [hF2 _ _ (by omega) (by omega), zf1]
  have hB2 : Below w.heap.size w w2 := below_of_grown hB1 g2 (by omega) (fun k e => by cases e; omega)
  have hS2' : w.heap.size < w2.heap.size := by omega
  clear hC2 hF2 k1 k2 g2 z1 zf1 hB1 hS1
  have hS2a : w.heap.size < w2.heap.size + 1 := by omega
  have hS2n : ¬ w.heap.size = w2.heap.size := by omega
  have hS2m : ¬ w.heap.size = w2.heap.size + 1 := by omega
  have hS2n' : ¬ w2.heap.size = w.heap.size := by omega
  have hS2m' : ¬ w2.heap.size + 1 = w.heap.size := by omega
  go_wp2_with fail
  go_region
  go_wp2_with fail
  refine bodyPost_ret (v := .tuple #[.agg #[.int .i64 f1, .int .i64 f2, .int .i64 f3], .int .i64 p, .int .i64 r, .int .i64 q, .int .i64 s]) (by go_light; simp [results, Tryd.results19, go_sem, *]) rfl ⟨⟨(f1, f2, f3), (p, r, q, s), rfl, hf, hx.1, hx.2.2.1, hx.2.1, hx.2.2.2⟩, ?_⟩
  repeat (first | with_reducible exact Below.refl _ _ | with_reducible assumption | ((with_reducible refine blA ?_ ?_); (focus (first | omega | (simp <;> omega)))) | (with_reducible refine blD ?_) | (with_reducible refine blN ?_) | ((with_reducible refine blS ?_ ?_); (focus (first | omega | (simp <;> omega)))) | ((with_reducible refine blT (by assumption) ?_ ?_); (focus (first | omega | (simp <;> omega)))))
end Go.Proofs.YtlfbanoabipacaaDoor
