/-
  Common words: bounds, endings, and a walk through a region that draws its order and whose calls may make memory of their own.
-/
import Derived.Test.YtladcjoiaoaedaaFacts
import Derived.WalkKit
import Derived.WalkSpells
import Derived.WalkLawsBesides
import Derived.Lib.Hide
import Derived.Outline
import Derived.Below
import Derived.Deep.Light
import Derived.BigQuiet
import Derived.Deep.QuietTactic
namespace Go.Proofs.Ytladcjoiaoaedaa
open Go.RowKit

def I64 (n : Int) : Prop := -9223372036854775808 ≤ n ∧ n ≤ 9223372036854775807
/-- A number that is not the least of 64 bits. -/
def J64 (n : Int) : Prop := -9223372036854775807 ≤ n ∧ n ≤ 9223372036854775807
def absI (n : Int) : Int := if n < -9223372036854775807 then 9223372036854775807 else if n < 0 then -n else n
theorem J64.i {n : Int} (h : J64 n) : I64 n := ⟨by have := h.1; omega, h.2⟩
theorem absI_of {n : Int} (h : J64 n) : absI n = n.natAbs := by
  obtain ⟨h1, h2⟩ := h
  unfold absI; rw [if_neg (by omega)]; split <;> omega
theorem ret_int {k : IntKind} {a b : Int} (h : a = b) : Ending.returned (.int k a) = .returned (.int k b) := by rw [h]
theorem ret_bool {a b : Bool} (h : a = b) : Ending.returned (.bool a) = .returned (.bool b) := by rw [h]
theorem ret_bb {a b c d : Bool} (h : a = c) (h' : b = d) : Ending.returned (.tuple #[.bool a, .bool b]) = .returned (.tuple #[.bool c, .bool d]) := by rw [h, h']
theorem ret_ib {a c : Int} {b d : Bool} (h : a = c) (h' : b = d) : Ending.returned (.tuple #[.int .i64 a, .bool b]) = .returned (.tuple #[.int .i64 c, .bool d]) := by rw [h, h']
theorem bcell {W w1 : World} (hb : Below W.heap.size W w1) : (∀ b o, b < W.heap.size → w1.cell? ⟨b, o, none⟩ = W.cell? ⟨b, o, none⟩) ∧ (∀ b o, b < W.heap.size → w1.frozen? ⟨b, o, none⟩ = W.frozen? ⟨b, o, none⟩) :=
  ⟨fun b o h => hb.cell (p := ⟨b, o, none⟩) h, fun b o h => hb.frozen (p := ⟨b, o, none⟩) h⟩
theorem bC {W w1 : World} (hb : Below W.heap.size W w1) {b o : Nat} (h : b < W.heap.size) : w1.cell? ⟨b, o, none⟩ = W.cell? ⟨b, o, none⟩ := hb.cell (p := ⟨b, o, none⟩) h
theorem bF {W w1 : World} (hb : Below W.heap.size W w1) {b o : Nat} (h : b < W.heap.size) : w1.frozen? ⟨b, o, none⟩ = W.frozen? ⟨b, o, none⟩ := hb.frozen (p := ⟨b, o, none⟩) h
theorem below_drewN {B : Nat} {a w : World} (h : Below B a w) (n : Nat) : Below B a (w.drewN n) := ⟨h.os, h.tape, h.output, h.size, h.block⟩

theorem blA {B : Nat} {a w : World} {o : Obj} (hB : B ≤ w.heap.size) (h : Below B a w) : Below B a (w.alloc o) := h.alloc hB o
theorem blD {B : Nat} {a w : World} (h : Below B a w) : Below B a w.drew := h.drew
theorem blN {B n : Nat} {a w : World} (h : Below B a w) : Below B a (w.drewN n) := below_drewN h n
theorem blS {B : Nat} {a w : World} {p : Addr} {u : Value} (hp : B ≤ p.block) (h : Below B a w) : Below B a (w.setCell p u) := h.setCell hp u
theorem blT {B B' : Nat} {a b c : World} (k : Below B' b c) (hB : B ≤ B') (h : Below B a b) : Below B a c := h.trans (k.mono hB)
theorem cell_alloc_old (w : World) (o : Obj) (b i : Nat) (h : b < w.heap.size) : (w.alloc o).cell? ⟨b, i, none⟩ = w.cell? ⟨b, i, none⟩ := World.cell?_alloc_lt w o ⟨b, i, none⟩ h
theorem frozen_alloc_old (w : World) (o : Obj) (b i : Nat) (h : b < w.heap.size) : (w.alloc o).frozen? ⟨b, i, none⟩ = w.frozen? ⟨b, i, none⟩ := World.frozen?_alloc_old w o ⟨b, i, none⟩ (Nat.ne_of_lt h)
/-- A bounded number. -/
def Bd (k n : Int) : Prop := -k ≤ n ∧ n ≤ k
theorem bd_iff {k n : Int} : Bd k n ↔ (n.natAbs : Int) ≤ k := by unfold Bd; omega
theorem mul_bd {k m n a b : Int} (ha : Bd k a) (hb : Bd m b) (h : k * m ≤ n) : Bd n (a * b) := by
  rw [bd_iff] at ha hb ⊢
  rw [Int.natAbs_mul, Int.natCast_mul]
  refine Int.le_trans (Int.mul_le_mul ha hb (by omega) (by omega)) h
theorem tdiv_bd {k a : Int} (b : Int) (ha : Bd k a) : Bd k (a.tdiv b) := by
  rw [bd_iff] at ha ⊢
  have := Int.natAbs_tdiv_le_natAbs a b
  omega
theorem Bd.mono {k m n : Int} (h : Bd k n) (hk : k ≤ m) : Bd m n := ⟨by have := h.1; omega, by have := h.2; omega⟩

/-! ### A region that draws its order, whose operations only read and whose calls change nothing that was there. -/

/-- A world behind W in which nothing that was in W has changed. -/
structure Past (W : World) where
  at_ : World
  below : Below W.heap.size W at_
instance past_some (W : World) : Nonempty (Past W) := ⟨⟨W, Below.refl _ _⟩⟩
def past (W : World) (x : Past W) : World := x.at_
theorem past_cell (W : World) (x : Past W) (b o : Nat) (h : b < W.heap.size) : (past W x).cell? ⟨b, o, none⟩ = W.cell? ⟨b, o, none⟩ := x.below.cell (p := ⟨b, o, none⟩) h
theorem past_frozen (W : World) (x : Past W) (b o : Nat) (h : b < W.heap.size) : (past W x).frozen? ⟨b, o, none⟩ = W.frozen? ⟨b, o, none⟩ := x.below.frozen (p := ⟨b, o, none⟩) h
theorem past_tape (W : World) (x : Past W) : (past W x).tape = W.tape := x.below.tape
attribute [local simp, local go_sem] past_cell past_frozen past_tape
theorem wp_region_past {P : Program} {id : Nat} {Q : Exit → Act → World → Prop} {a : Act} {w : World} {l : List Oper} (hm : P.follows .mixedOrders = true) (hB : Region.lexB .any l.toArray = true)
    (h : wpQuiet P l.toArray (fun w' => ∃ x, w' = past w x) (fun a' => ∀ w', (∃ x, w' = past w x) → Q .normal a' w') l a) : (Code.region id l.toArray true).wp P Q a w :=
  wp_region_quiet (C := fun w' => ∃ x, w' = past w x) hm hB ⟨⟨w.drew, (Below.refl _ _).drew⟩, rfl⟩ (by simpa using h)
theorem past_below {w w' : World} (h : ∃ x, w' = past w x) : Below w.heap.size w w' := by
  obtain ⟨x, rfl⟩ := h
  exact x.below
theorem past_of {P : Program} {f : FuncId} {args : Array Value} {W : World} {x : Past W} {v : Value}
    (h : Calls P f args (past W x) fun e w' => e = .returned v ∧ Below (past W x).heap.size (past W x) w') : Calls P f args (past W x) fun e w'' => e = .returned v ∧ ∃ y, w'' = past W y :=
  h.mono fun _ w'' ⟨he, hb⟩ => ⟨he, ⟨⟨w'', x.below.trans (hb.mono x.below.size)⟩, rfl⟩⟩
theorem past_same {P : Program} {f : FuncId} {args : Array Value} {W : World} {x : Past W} {v : Value}
    (h : Calls P f args (past W x) fun e w' => e = .returned v ∧ past W x = w') : Calls P f args (past W x) fun e w'' => e = .returned v ∧ ∃ y, w'' = past W y :=
  h.mono fun _ w'' ⟨he, hb⟩ => ⟨he, ⟨x, hb.symm⟩⟩
theorem past_draws {P : Program} {f : FuncId} {args : Array Value} {W : World} {x : Past W} {v : Value}
    (h : Calls P f args (past W x) fun e w' => e = .returned v ∧ ∃ n, w' = (past W x).drewN n) : Calls P f args (past W x) fun e w'' => e = .returned v ∧ ∃ y, w'' = past W y :=
  h.mono fun _ w'' ⟨he, n, hb⟩ => ⟨he, ⟨⟨w'', by rw [hb]; exact below_drewN x.below n⟩, rfl⟩⟩
theorem quiet_same {P : Program} {f : FuncId} {args : Array Value} {w : World} {n : Nat} {v : Value}
    (h : Calls P f args (w.drewN n) fun e w' => e = .returned v ∧ w.drewN n = w') : Calls P f args (w.drewN n) fun e w'' => e = .returned v ∧ ∃ m, w'' = w.drewN m :=
  h.mono fun _ _ ⟨he, hm⟩ => ⟨he, n, hm.symm⟩
end Go.Proofs.Ytladcjoiaoaedaa
