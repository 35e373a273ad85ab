/-
  Common words: bounds, endings, and a walk through a region that draws its order and whose calls may make memory of their own.
-/
import Derived.Test.YtemnkfigjpphgaaFacts
import Derived.WalkKit
import Derived.WalkSpells
import Derived.WalkLawsBesides
import Derived.Lib.Hide
import Derived.Outline
import Derived.Below
import Derived.Deep.Light
import Derived.BigQuiet
import Derived.Deep.QuietTactic
import Derived.StillTail
namespace Go.Proofs.Ytemnkfigjpphgaa
open Go.RowKit

def I64 (n : Int) : Prop := -9223372036854775808 ≤ n ∧ n ≤ 9223372036854775807
/-- A number that is not the least of 64 bits. -/
def J64 (n : Int) : Prop := -9223372036854775807 ≤ n ∧ n ≤ 9223372036854775807
def absI (n : Int) : Int := if n < -9223372036854775807 then 9223372036854775807 else if n < 0 then -n else n
theorem J64.i {n : Int} (h : J64 n) : I64 n := ⟨by have := h.1; omega, h.2⟩
theorem absI_of {n : Int} (h : J64 n) : absI n = n.natAbs := by
  obtain ⟨h1, h2⟩ := h
  unfold absI; rw [if_neg (by omega)]; split <;> omega
theorem ret_int {k : IntKind} {a b : Int} (h : a = b) : Ending.returned (.int k a) = .returned (.int k b) := by rw [h]
theorem ret_bool {a b : Bool} (h : a = b) : Ending.returned (.bool a) = .returned (.bool b) := by rw [h]
theorem ret_bb {a b c d : Bool} (h : a = c) (h' : b = d) : Ending.returned (.tuple #[.bool a, .bool b]) = .returned (.tuple #[.bool c, .bool d]) := by rw [h, h']
theorem ret_ib {a c : Int} {b d : Bool} (h : a = c) (h' : b = d) : Ending.returned (.tuple #[.int .i64 a, .bool b]) = .returned (.tuple #[.int .i64 c, .bool d]) := by rw [h, h']
theorem bcell {W w1 : World} (hb : Below W.heap.size W w1) : (∀ b o, b < W.heap.size → w1.cell? ⟨b, o, none⟩ = W.cell? ⟨b, o, none⟩) ∧ (∀ b o, b < W.heap.size → w1.frozen? ⟨b, o, none⟩ = W.frozen? ⟨b, o, none⟩) :=
  ⟨fun b o h => hb.cell (p := ⟨b, o, none⟩) h, fun b o h => hb.frozen (p := ⟨b, o, none⟩) h⟩
theorem bC {W w1 : World} (hb : Below W.heap.size W w1) {b o : Nat} (h : b < W.heap.size) : w1.cell? ⟨b, o, none⟩ = W.cell? ⟨b, o, none⟩ := hb.cell (p := ⟨b, o, none⟩) h
theorem bF {W w1 : World} (hb : Below W.heap.size W w1) {b o : Nat} (h : b < W.heap.size) : w1.frozen? ⟨b, o, none⟩ = W.frozen? ⟨b, o, none⟩ := hb.frozen (p := ⟨b, o, none⟩) h
theorem below_drewN {B : Nat} {a w : World} (h : Below B a w) (n : Nat) : Below B a (w.drewN n) := ⟨h.os, h.tape, h.output, h.size, h.block⟩

theorem blA {B : Nat} {a w : World} {o : Obj} (hB : B ≤ w.heap.size) (h : Below B a w) : Below B a (w.alloc o) := h.alloc hB o
theorem blD {B : Nat} {a w : World} (h : Below B a w) : Below B a w.drew := h.drew
theorem blN {B n : Nat} {a w : World} (h : Below B a w) : Below B a (w.drewN n) := below_drewN h n
theorem blS {B : Nat} {a w : World} {p : Addr} {u : Value} (hp : B ≤ p.block) (h : Below B a w) : Below B a (w.setCell p u) := h.setCell hp u
theorem blT {B B' : Nat} {a b c : World} (k : Below B' b c) (hB : B ≤ B') (h : Below B a b) : Below B a c := h.trans (k.mono hB)
theorem cell_alloc_old (w : World) (o : Obj) (b i : Nat) (h : b < w.heap.size) : (w.alloc o).cell? ⟨b, i, none⟩ = w.cell? ⟨b, i, none⟩ := World.cell?_alloc_lt w o ⟨b, i, none⟩ h
theorem frozen_alloc_old (w : World) (o : Obj) (b i : Nat) (h : b < w.heap.size) : (w.alloc o).frozen? ⟨b, i, none⟩ = w.frozen? ⟨b, i, none⟩ := World.frozen?_alloc_old w o ⟨b, i, none⟩ (Nat.ne_of_lt h)
/-- A bounded number. -/
def Bd (k n : Int) : Prop := -k ≤ n ∧ n ≤ k
theorem bd_iff {k n : Int} : Bd k n ↔ (n.natAbs : Int) ≤ k := by unfold Bd; omega
theorem mul_bd {k m n a b : Int} (ha : Bd k a) (hb : Bd m b) (h : k * m ≤ n) : Bd n (a * b) := by
  rw [bd_iff] at ha hb ⊢
  rw [Int.natAbs_mul, Int.natCast_mul]
  refine Int.le_trans (Int.mul_le_mul ha hb (by omega) (by omega)) h
theorem tdiv_bd {k a : Int} (b : Int) (ha : Bd k a) : Bd k (a.tdiv b) := by
  rw [bd_iff] at ha ⊢
  have := Int.natAbs_tdiv_le_natAbs a b
  omega
theorem Bd.mono {k m n : Int} (h : Bd k n) (hk : k ≤ m) : Bd m n := ⟨by have := h.1; omega, by have := h.2; omega⟩

/-! ### A region that draws its order, whose operations only read and whose calls change nothing that was there. -/

/-- A world behind W in which nothing that was in W has changed. -/
structure Past (W : World) where
  at_ : World
  below : Below W.heap.size W at_
instance past_some (W : World) : Nonempty (Past W) := ⟨⟨W, Below.refl _ _⟩⟩
def past (W : World) (x : Past W) : World := x.at_
theorem past_cell (W : World) (x : Past W) (b o : Nat) (h : b < W.heap.size) : (past W x).cell? ⟨b, o, none⟩ = W.cell? ⟨b, o, none⟩ := x.below.cell (p := ⟨b, o, none⟩) h
theorem past_frozen (W : World) (x : Past W) (b o : Nat) (h : b < W.heap.size) : (past W x).frozen? ⟨b, o, none⟩ = W.frozen? ⟨b, o, none⟩ := x.below.frozen (p := ⟨b, o, none⟩) h
theorem past_tape (W : World) (x : Past W) : (past W x).tape = W.tape := x.below.tape
attribute [local simp, local go_sem] past_cell past_frozen past_tape
theorem wp_region_past {P : Program} {id : Nat} {Q : Exit → Act → World → Prop} {a : Act} {w : World} {l : List Oper} (hm : P.follows .mixedOrders = true) (hB : Region.lexB .any l.toArray = true)
    (h : wpQuiet P l.toArray (fun w' => ∃ x, w' = past w x) (fun a' => ∀ w', (∃ x, w' = past w x) → Q .normal a' w') l a) : (Code.region id l.toArray true).wp P Q a w :=
  wp_region_quiet (C := fun w' => ∃ x, w' = past w x) hm hB ⟨⟨w.drew, (Below.refl _ _).drew⟩, rfl⟩ (by simpa using h)
theorem past_below {w w' : World} (h : ∃ x, w' = past w x) : Below w.heap.size w w' := by
  obtain ⟨x, rfl⟩ := h
  exact x.below
theorem past_of {P : Program} {f : FuncId} {args : Array Value} {W : World} {x : Past W} {v : Value}
    (h : Calls P f args (past W x) fun e w' => e = .returned v ∧ Below (past W x).heap.size (past W x) w') : Calls P f args (past W x) fun e w'' => e = .returned v ∧ ∃ y, w'' = past W y :=
  h.mono fun _ w'' ⟨he, hb⟩ => ⟨he, ⟨⟨w'', x.below.trans (hb.mono x.below.size)⟩, rfl⟩⟩
theorem past_same {P : Program} {f : FuncId} {args : Array Value} {W : World} {x : Past W} {v : Value}
    (h : Calls P f args (past W x) fun e w' => e = .returned v ∧ past W x = w') : Calls P f args (past W x) fun e w'' => e = .returned v ∧ ∃ y, w'' = past W y :=
  h.mono fun _ w'' ⟨he, hb⟩ => ⟨he, ⟨x, hb.symm⟩⟩
theorem past_draws {P : Program} {f : FuncId} {args : Array Value} {W : World} {x : Past W} {v : Value}
    (h : Calls P f args (past W x) fun e w' => e = .returned v ∧ ∃ n, w' = (past W x).drewN n) : Calls P f args (past W x) fun e w'' => e = .returned v ∧ ∃ y, w'' = past W y :=
  h.mono fun _ w'' ⟨he, n, hb⟩ => ⟨he, ⟨⟨w'', by rw [hb]; exact below_drewN x.below n⟩, rfl⟩⟩
theorem quiet_same {P : Program} {f : FuncId} {args : Array Value} {w : World} {n : Nat} {v : Value}
    (h : Calls P f args (w.drewN n) fun e w' => e = .returned v ∧ w.drewN n = w') : Calls P f args (w.drewN n) fun e w'' => e = .returned v ∧ ∃ m, w'' = w.drewN m :=
  h.mono fun _ _ ⟨he, hm⟩ => ⟨he, n, hm.symm⟩
end Go.Proofs.Ytemnkfigjpphgaa

/-
  A region that draws its order: operations that only read and quiet calls come first, in whatever order; a tail of operations follows in one forced order. One walk serves: the first part in the order of the text, then the tail.
-/
namespace Go.Proofs.Ytemnkfigjpphgaa
open Go.RowKit

section
variable {P : Program} {md : Region.Mode} {ops : Array Oper} {C : World → Prop} {n : Nat} {L : Array Bool → Act → Prop}

/-- Whatever order is taken, f operations of the first part come up, each of them quiet; then L holds. -/
def headAny (P : Program) (md : Region.Mode) (ops : Array Oper) (C : World → Prop) (n : Nat) (L : Array Bool → Act → Prop) : Nat → Array Bool → Act → Prop
  | 0, done, a => L done a
  | f + 1, done, a => Region.ready md ops done ≠ [] ∧ ∀ i ∈ Region.ready md ops done, i < n ∧ qOp P ops C i (headAny P md ops C n L f (done.setIfInBounds i true)) a

/-- The first part, then whatever L gives. -/
theorem any_of_head {g : Nat} {Q : Exit → Act → World → Prop} (hL : ∀ done a, L done a → ∀ w, C w → wpAny P md ops Q g done a w) (f : Nat) :
    ∀ (done : Array Bool) (a : Act), headAny P md ops C n L f done a → ∀ w, C w → wpAny P md ops Q (f + g) done a w := by
  induction f with
  | zero => intro done a h w hw; rw [Nat.zero_add]; exact hL done a h w hw
  | succ f ih =>
    intro done a h w hw
    rw [show f + 1 + g = (f + g) + 1 by omega]
    exact ⟨fun h0 => absurd h0 h.1, fun i hi => wpOp_of_qOp hw (fun a' w' hw' h' => ih _ a' h' w' hw') (h.2 i hi).2⟩

/-- What may come up in the first part and is apart from what else may come up, may be taken at once. -/
theorem head_at_once {i : Nat} {oi : Oper} {v : Value} (hi : ops[i]? = some oi) (hin : i < n) (hn : n < ops.size) (hno : Region.noSelect ops = true) (hs : Region.sinkB md ops n = true) (hc : Region.chainB md ops n = true)
    (hend : ∀ done a, L done a → ∀ j ∈ Region.ready md ops done, n ≤ j) (f : Nat) : ∀ (done : Array Bool) (a : Act), HeadInv md ops n done → i ∈ Region.ready md ops done → YieldsIn P ops C oi v a →
      (∀ j oj, ops[j]? = some oj → j ≠ i → done.getD j true = false → (∀ e ∈ oj.after, Region.binds md e = true → e.on ≠ i) → oi.apart ops oj = true) →
      headAny P md ops C n L f (done.setIfInBounds i true) (a.put oi.dst v) → headAny P md ops C n L (f + 1) done a := by
  have hsel := Region.noSelect_spec hno
  induction f with
  | zero =>
    intro done a inv hr hy _ H
    refine ⟨List.ne_nil_of_mem hr, fun j hj => ?_⟩
    have hjn : j < n := Nat.lt_of_not_le fun h => tail_waits hs hc hn inv _ i rfl hin (mem_ready.1 hr).1 j h hj
    refine ⟨hjn, ?_⟩
    rcases Decidable.em (j = i) with rfl | hne
    · exact hy.qOp hi H
    · exact absurd (hend _ _ H j (ready_mono hj hne)) (by omega)
  | succ f ih =>
    intro done a inv hr hy hap H
    refine ⟨List.ne_nil_of_mem hr, fun j hj => ?_⟩
    have hui := (mem_ready.1 hr).1
    have hjn : j < n := Nat.lt_of_not_le fun h => tail_waits hs hc hn inv _ i rfl hin hui j h hj
    refine ⟨hjn, ?_⟩
    rcases Decidable.em (j = i) with rfl | hne
    · exact hy.qOp hi H
    obtain ⟨huj, oj, hoj, hafter⟩ := mem_ready.1 hj
    have hwait : ∀ e ∈ oj.after, Region.binds md e = true → e.on ≠ i := by
      intro e he hb heq
      have := hafter e he hb
      rw [heq, getD_both hui] at this
      cases this
    have key := qOp_put hoj (hap j oj hoj hne huj hwait) (fun cs b => hsel i oi cs b hi) (fun cs b => hsel j oj cs b hoj) hy (H.2 j (ready_mono hj hne)).2
    refine qOp_mono (fun a' h3 => ih _ a' (inv.set hj hjn) (ready_mono hr (Ne.symm hne)) h3.1 (fun k ok hk hki hun hnw => ?_) ?_) key
    · refine hap k ok hk hki ?_ hnw
      rcases Decidable.em (j = k) with rfl | hjk
      · exact huj
      · rwa [getD_set_ne true hjk] at hun
    · rw [Array.setIfInBounds_comm _ _ hne]
      exact h3.2

/-- The walk in the order of the text serves every order of the first part. -/
theorem head_of_walk {g : Nat} {K : Act → Prop} (hn : n < ops.size) (hno : Region.noSelect ops = true) (hs : Region.sinkB md ops n = true) (hc : Region.chainB md ops n = true) (l : List Oper) :
    ∀ (k : Nat) (done : Array Bool) (a : Act), k + l.length = n → (∀ j, j < l.length → l[j]? = ops[k + j]?) → HeadInv md ops n done → Region.lexHead md ops g l.length k done = true → wpQuiet P ops C K l a →
      headAny P md ops C n (fun d a' => Region.seqB md ops g n d = true ∧ K a') l.length done a := by
  induction l with
  | nil =>
    intro k done a hk _ _ hB h
    obtain rfl : k = n := by simpa using hk
    exact ⟨by simpa [Region.lexHead] using hB, h⟩
  | cons o l ih =>
    intro k done a hk hl inv hB h
    rw [List.length_cons] at hk
    have hk0 : ops[k]? = some o := by have := hl 0 (by simp); simpa using this.symm
    rw [List.length_cons, Region.lexHead, Bool.and_eq_true, Bool.and_eq_true] at hB
    have hr : k ∈ Region.ready md ops done := by simpa using hB.1.1
    have hkn : k < n := by omega
    obtain ⟨v, hy, hK⟩ := yieldsIn_of_qOp (K := wpQuiet P ops C K l) hk0 (by unfold qOp; simp only [hk0]; exact h)
    refine head_at_once hk0 hkn hn hno hs hc (fun d a' hd => seqB_ready hd.1) l.length done a inv hr hy (Region.free_spec hk0 hB.1.2) ?_
    refine ih (k + 1) _ _ (by omega) (fun j hj => ?_) (inv.set hr hkn) hB.2 hK
    have := hl (j + 1) (by simpa using hj)
    rw [show k + 1 + j = k + (j + 1) by omega, ← this]
    simp
end

theorem wp_region_tail {P : Program} {C : World → Prop} {id : Nat} {Q : Exit → Act → World → Prop} {a : Act} {w : World} {l : List Oper} (n : Nat) (hm : P.follows .mixedOrders = true) (hB : Region.lexTailB .any l.toArray n = true) (hC : C { w with drawn := w.drawn + 1 })
    (h : wpQuiet P l.toArray C (fun a' => ∀ w', C w' → wpList P l.toArray Q (l.drop n) a' w') (l.take n) a) : (Code.region id l.toArray true).wp P Q a w := by
  simp only [Region.lexTailB, Bool.and_eq_true, decide_eq_true_eq] at hB
  obtain ⟨⟨⟨⟨hno, hn⟩, hs⟩, hc⟩, hlex⟩ := hB
  have hnl : n < l.length := by simpa using hn
  have e1 : (l.take n).length = n := by simp; omega
  have e2 : (l.drop n).length = l.toArray.size - n := by simp
  have inv : HeadInv .any l.toArray n (Array.replicate l.toArray.size false) := by
    refine ⟨by simp, fun j oj _ hl => ?_, fun t _ ht => ?_⟩
    · rw [getD_replicate_false] at hl; cases hl
    · exact getD_in (by simpa using ht) (getD_replicate_false _ _)
  have H := head_of_walk (md := .any) (g := l.toArray.size - n) hn hno hs hc (l.take n) 0 _ a (by omega) (fun j hj => by rw [e1] at hj; simp [hj]) inv (by rw [e1]; exact hlex) h
  refine wp_region_any hm ?_
  have R := any_of_head (Q := Q) (g := l.toArray.size - n) (fun d a' hd w' hw' => by
    have := wpAny_of_seq (md := .any) (Q' := Q) (l.drop n) n d a' w' (fun j => by simp [List.getElem?_drop]) (by rw [e2]; exact hd.1) (hd.2 w' hw')
    rwa [e2] at this) _ _ _ H _ hC
  rw [e1, show n + (l.toArray.size - n) = l.toArray.size by omega] at R
  exact R

theorem wp_region_past_tail {P : Program} {id : Nat} {Q : Exit → Act → World → Prop} {a : Act} {w : World} {l : List Oper} (n : Nat) (hm : P.follows .mixedOrders = true) (hB : Region.lexTailB .any l.toArray n = true)
    (h : wpQuiet P l.toArray (fun w' => ∃ x, w' = past w x) (fun a' => ∀ w', (∃ x, w' = past w x) → wpList P l.toArray Q (l.drop n) a' w') (l.take n) a) : (Code.region id l.toArray true).wp P Q a w :=
  wp_region_tail (C := fun w' => ∃ x, w' = past w x) n hm hB ⟨⟨w.drew, (Below.refl _ _).drew⟩, rfl⟩ h

/-! ### One new block is made among the operations of the first part, at any time. -/
section
variable {P : Program} {md : Region.Mode} {ops : Array Oper} {n : Nat}

/-- The worlds behind V. -/
def Cl (V w : World) : Prop := ∃ x, w = past V x
theorem cl_of {V w : World} (h : Below V.heap.size V w) : Cl V w := ⟨⟨w, h⟩, rfl⟩
theorem Cl.trans {a b c : World} (h : Cl a b) (k : Cl b c) : Cl a c := cl_of ((past_below h).trans ((past_below k).mono (past_below h).size))
theorem Cl.alloc {a b : World} (h : Cl a b) (o : Obj) : Cl a (b.alloc o) := cl_of ((past_below h).alloc (past_below h).size o)

/-- One value, whatever has been made meanwhile. -/
def CalmY (P : Program) (ops : Array Oper) (V : World) (o : Oper) (v : Value) (a : Act) : Prop := ∀ w0, Cl V w0 → YieldsIn P ops (Cl w0) o v a
theorem CalmY.here {V : World} {o : Oper} {v : Value} {a : Act} (h : CalmY P ops V o v a) : YieldsIn P ops (Cl V) o v a := h V (cl_of (Below.refl _ _))
theorem CalmY.later {V V' : World} {o : Oper} {v : Value} {a : Act} (h : CalmY P ops V o v a) (hv : Cl V V') : YieldsIn P ops (Cl V') o v a := h V' hv
theorem CalmY.put_ {V : World} {oi oj : Oper} {v : Value} {a : Act} (hy : CalmY P ops V oi v a) (hap : oi.apart ops oj = true) (hsi : ∀ cs b, oi.op ≠ .select cs b) (u : Value) : CalmY P ops V oi v (a.put oj.dst u) := by
  obtain ⟨_, _, h3⟩ := Oper.apart_spec hap
  exact fun w0 hw => (hy w0 hw).of_same (execOp_put oi hsi a oj.dst u h3) (wanted_put oi a oj.dst u h3)

theorem calm_put {V : World} {j : Nat} {oi oj : Oper} {v : Value} (hj : ops[j]? = some oj) (hap : oi.apart ops oj = true) (hsi : ∀ cs b, oi.op ≠ .select cs b) (hsj : ∀ cs b, oj.op ≠ .select cs b) {K : Act → Prop} {a : Act}
    (hy : CalmY P ops V oi v a) (h : qOp P ops (Cl V) j K (a.put oi.dst v)) : qOp P ops (Cl V) j (fun a' => CalmY P ops V oi v a' ∧ K (a'.put oi.dst v)) a := by
  obtain ⟨h1, h2, _⟩ := Oper.apart_spec hap
  unfold qOp at *
  simp only [hj] at *
  rw [wanted_put oj a oi.dst v h1] at h
  by_cases hw : Region.wanted oj (yielded ops a.tmps) = true
  · rw [if_pos hw] at h ⊢
    obtain ⟨u, hu, hK⟩ := h
    refine ⟨u, fun w hw' => ?_, hy.put_ hap hsi u, by rw [← Act.put_comm a v u h2]; exact hK⟩
    have := hu w hw'
    unfold Oper.quietAt at *
    rwa [execOp_put oj hsj a oi.dst v h1] at this
  · rw [if_neg hw] at h ⊢
    exact ⟨hy.put_ hap hsi undef, by rw [← Act.put_comm a v undef h2]; exact h⟩

/-- The values of a walk that ends in the frame A. -/
def calmTo (P : Program) (ops : Array Oper) (V : World) (A : Act) : List Oper → Act → Prop
  | [], a => a = A
  | o :: l, a => ∃ v, CalmY P ops V o v a ∧ calmTo P ops V A l (a.put o.dst v)

/-- Each operation has a slot of its own. -/
def ownSlots (size : Nat) : List Oper → Bool
  | [] => true
  | o :: l => (match o.dst with | some d => decide (d < size) && l.all (fun o' => o'.dst != some d) | none => false) && ownSlots size l

theorem put_getD (a : Act) (dst : Option Tmp) (v : Value) (d : Nat) (h : dst ≠ some d) : (a.put dst v).tmps.getD d undef = a.tmps.getD d undef := by
  cases dst with
  | none => rfl
  | some e =>
    have : e ≠ d := fun h' => h (by rw [h'])
    simp [Act.put, Array.getD_eq_getD_getElem?, Array.getElem?_setIfInBounds, this]
theorem put_getD_same (a : Act) (d : Nat) (v : Value) (h : d < a.tmps.size) : (a.put (some d) v).tmps.getD d undef = v := by
  simp [Act.put, Array.getD_eq_getD_getElem?, Array.getElem?_setIfInBounds, h]
theorem put_size (a : Act) (dst : Option Tmp) (v : Value) : (a.put dst v).tmps.size = a.tmps.size := by
  cases dst <;> simp [Act.put]

theorem slot_kept {C : World → Prop} {A : Act} {d : Nat} (l : List Oper) : ∀ a : Act, (∀ o ∈ l, o.dst ≠ some d) → wpQuiet P ops C (fun a' => a' = A) l a → A.tmps.getD d undef = a.tmps.getD d undef := by
  induction l with
  | nil => intro a _ h; rw [show a = A from h]
  | cons o l ih =>
    intro a hd h
    unfold wpQuiet at h
    split at h
    · obtain ⟨v, _, h⟩ := h
      rw [ih _ (fun o' ho' => hd o' (by simp [ho'])) h, put_getD _ _ _ _ (hd o (by simp))]
    · rw [ih _ (fun o' ho' => hd o' (by simp [ho'])) h, put_getD _ _ _ _ (hd o (by simp))]

theorem calm_of_walks {V : World} {A : Act} (l : List Oper) : ∀ a : Act, ownSlots a.tmps.size l = true → (∀ w0, Cl V w0 → wpQuiet P ops (Cl w0) (fun a' => a' = A) l a) → calmTo P ops V A l a := by
  induction l with
  | nil => intro a _ h; exact h V (cl_of (Below.refl _ _))
  | cons o l ih =>
    intro a hd h
    simp only [ownSlots, Bool.and_eq_true] at hd
    obtain ⟨hd1, hd2⟩ := hd
    cases hdst : o.dst with
    | none => rw [hdst] at hd1; cases hd1
    | some d =>
      rw [hdst] at hd1
      simp only [Bool.and_eq_true, decide_eq_true_eq, List.all_eq_true, bne_iff_ne] at hd1
      by_cases hw : Region.wanted o (yielded ops a.tmps) = true
      · have key : ∀ w0, Cl V w0 → (∀ w, Cl w0 w → o.quietAt P a (Cl w0) w (A.tmps.getD d undef)) ∧ wpQuiet P ops (Cl w0) (fun a' => a' = A) l (a.put o.dst (A.tmps.getD d undef)) := by
          intro w0 h0
          have h1 := h w0 h0
          unfold wpQuiet at h1
          rw [if_pos hw] at h1
          obtain ⟨v, hv, hr⟩ := h1
          have : A.tmps.getD d undef = v := by rw [slot_kept l _ hd1.2 hr, hdst, put_getD_same _ _ _ hd1.1]
          rw [this]
          exact ⟨hv, hr⟩
        exact ⟨_, fun w0 h0 => .inl ⟨hw, (key w0 h0).1⟩, ih _ (by rw [put_size]; exact hd2) fun w0 h0 => (key w0 h0).2⟩
      · refine ⟨undef, fun w0 _ => .inr ⟨by simpa using hw, rfl⟩, ih _ (by rw [put_size]; exact hd2) fun w0 h0 => ?_⟩
        have h1 := h w0 h0
        unfold wpQuiet at h1
        rwa [if_neg hw] at h1


/-- An operation with an effect: whatever has been made meanwhile, it runs, and hands on a world behind V0. -/
def effAt (P : Program) (ops : Array Oper) (V0 V : World) (o : Oper) (a : Act) (K : World → Act → Prop) : Prop :=
  if Region.wanted o (yielded ops a.tmps) then
    ∀ w, Cl V w → match (execOp a.eval o).run P w with
      | .ok (.value v) w' => Cl V0 w' ∧ K w' (a.put o.dst v)
      | .ok .skip w' => Cl V0 w' ∧ K w' (a.put o.dst undef)
      | _ => False
  else K V (a.put o.dst undef)

/-- Whatever order is taken: the first m operations are quiet, the others have effects. -/
def mixed (P : Program) (md : Region.Mode) (ops : Array Oper) (V0 : World) (m : Nat) (Q : Exit → Act → World → Prop) : Nat → World → Array Bool → Act → Prop
  | 0, V, done, a => Region.ready md ops done = [] ∧ ∀ w, Cl V w → Q .normal a w
  | f + 1, V, done, a => Region.ready md ops done ≠ [] ∧ ∀ i ∈ Region.ready md ops done,
      if m ≤ i then ∃ o, ops[i]? = some o ∧ effAt P ops V0 V o a (fun V' a' => mixed P md ops V0 m Q f V' (done.setIfInBounds i true) a')
      else qOp P ops (Cl V) i (mixed P md ops V0 m Q f V (done.setIfInBounds i true)) a

theorem effAt_mono {V0 V : World} {o : Oper} {a : Act} {K K' : World → Act → Prop} (h : ∀ V' a', Cl V0 V' → K V' a' → K' V' a') (hV : Cl V0 V) (hh : effAt P ops V0 V o a K) : effAt P ops V0 V o a K' := by
  unfold effAt at *
  split at hh
  · rename_i hw
    rw [if_pos hw]
    intro w hwV
    have := hh w hwV
    split at this
    · exact ⟨this.1, h _ _ this.1 this.2⟩
    · exact ⟨this.1, h _ _ this.1 this.2⟩
    · exact this
  · rename_i hw
    rw [if_neg hw]
    exact h _ _ hV hh

theorem any_of_mixed {V0 : World} {m : Nat} {Q : Exit → Act → World → Prop} (f : Nat) : ∀ (V : World) (done : Array Bool) (a : Act), mixed P md ops V0 m Q f V done a → ∀ w, Cl V w → wpAny P md ops Q f done a w := by
  induction f with
  | zero => intro V done a h w hw; exact ⟨h.1, h.2 w hw⟩
  | succ f ih =>
    intro V done a h w hw
    refine ⟨fun h0 => absurd h0 h.1, fun i hi => ?_⟩
    have h2 := h.2 i hi
    split at h2
    · obtain ⟨o, ho, he⟩ := h2
      unfold wpOp
      simp only [ho]
      unfold effAt at he
      split at he
      · rename_i hwt
        rw [if_pos hwt]
        left
        unfold Oper.wp
        have he := he w hw
        split at he
        · rename_i v w' hrun
          rw [hrun]
          exact ih _ _ _ he.2 _ (cl_of (Below.refl _ _))
        · rename_i w' hrun
          rw [hrun]
          exact ih _ _ _ he.2 _ (cl_of (Below.refl _ _))
        · exact he.elim
      · rename_i hwt
        rw [if_neg hwt]
        exact ih _ _ _ he _ hw
    · exact wpOp_of_qOp hw (fun a' w' hw' h' => ih _ _ a' h' w' hw') h2

theorem mixed_at_once {V0 : World} {m i : Nat} {oi : Oper} {v : Value} {Q : Exit → Act → World → Prop} (hi : ops[i]? = some oi) (him : i < m) (hno : Region.noSelect ops = true) (f : Nat) :
    ∀ (V : World) (done : Array Bool) (a : Act), Cl V0 V → i ∈ Region.ready md ops done → CalmY P ops V0 oi v a →
      (∀ j oj, ops[j]? = some oj → j ≠ i → done.getD j true = false → (∀ e ∈ oj.after, Region.binds md e = true → e.on ≠ i) → oi.apart ops oj = true) →
      mixed P md ops V0 m Q f V (done.setIfInBounds i true) (a.put oi.dst v) → mixed P md ops V0 m Q (f + 1) V done a := by
  have hsel := Region.noSelect_spec hno
  induction f with
  | zero =>
    intro V done a hV hr hy _ H
    refine ⟨List.ne_nil_of_mem hr, fun j hj => ?_⟩
    rcases Decidable.em (j = i) with rfl | hne
    · rw [if_neg (by omega)]
      exact (hy.later hV).qOp hi H
    · have := ready_mono hj hne
      rw [H.1] at this
      cases this
  | succ f ih =>
    intro V done a hV hr hy hap H
    refine ⟨List.ne_nil_of_mem hr, fun j hj => ?_⟩
    have hui := (mem_ready.1 hr).1
    rcases Decidable.em (j = i) with rfl | hne
    · rw [if_neg (by omega)]
      exact (hy.later hV).qOp hi H
    obtain ⟨huj, oj, hoj, hafter⟩ := mem_ready.1 hj
    have hwait : ∀ e ∈ oj.after, Region.binds md e = true → e.on ≠ i := by
      intro e he hb heq
      have := hafter e he hb
      rw [heq, getD_both hui] at this
      cases this
    have hapj := hap j oj hoj hne huj hwait
    have hap' : ∀ k ok, ops[k]? = some ok → k ≠ i → (done.setIfInBounds j true).getD k true = false → (∀ e ∈ ok.after, Region.binds md e = true → e.on ≠ i) → oi.apart ops ok = true := by
      intro k ok hk hki hun hnw
      refine hap k ok hk hki ?_ hnw
      rcases Decidable.em (j = k) with rfl | hjk
      · exact huj
      · rwa [getD_set_ne true hjk] at hun
    have H2 := H.2 j (ready_mono hj hne)
    by_cases hjm : m ≤ j
    · rw [if_pos hjm] at H2 ⊢
      obtain ⟨o', ho', he⟩ := H2
      obtain rfl : o' = oj := Option.some.inj (ho'.symm.trans hoj)
      refine ⟨o', ho', ?_⟩
      obtain ⟨h1, h2, _⟩ := Oper.apart_spec hapj
      have hj' : ∀ u : Value, CalmY P ops V0 oi v (a.put o'.dst u) := fun u => hy.put_ hapj (fun cs b => hsel i oi cs b hi) u
      have hstep : ∀ (V' : World) (u : Value), Cl V0 V' → mixed P md ops V0 m Q f V' ((done.setIfInBounds i true).setIfInBounds j true) ((a.put oi.dst v).put o'.dst u) → mixed P md ops V0 m Q (f + 1) V' (done.setIfInBounds j true) (a.put o'.dst u) := by
        intro V' u hV' hm
        refine ih V' _ _ hV' (ready_mono hr (Ne.symm hne)) (hj' u) hap' ?_
        rw [Array.setIfInBounds_comm _ _ hne, ← Act.put_comm a v u h2]
        exact hm
      unfold effAt at he ⊢
      rw [wanted_put o' a oi.dst v h1] at he
      split at he
      · rename_i hw
        rw [if_pos hw]
        intro w hwV
        have he := he w hwV
        rw [execOp_put o' (fun cs b => hsel j o' cs b hoj) a oi.dst v h1] at he
        split at he
        · exact ⟨he.1, hstep _ _ he.1 he.2⟩
        · exact ⟨he.1, hstep _ _ he.1 he.2⟩
        · exact he
      · rename_i hw
        rw [if_neg hw]
        exact hstep _ _ hV he
    · rw [if_neg hjm] at H2 ⊢
      have key := calm_put (V := V) hoj hapj (fun cs b => hsel i oi cs b hi) (fun cs b => hsel j oj cs b hoj) (fun w0 h0 => hy w0 (hV.trans h0)) H2
      have hy2 : ∀ u, CalmY P ops V0 oi v (a.put oj.dst u) := fun u => hy.put_ hapj (fun cs b => hsel i oi cs b hi) u
      have key2 : qOp P ops (Cl V) j (fun a' => CalmY P ops V0 oi v a' ∧ mixed P md ops V0 m Q f V ((done.setIfInBounds i true).setIfInBounds j true) (a'.put oi.dst v)) a := by
        unfold qOp at key ⊢
        simp only [hoj] at key ⊢
        split at key
        · rename_i hw
          rw [if_pos hw]
          obtain ⟨u, hu, _, hK⟩ := key
          exact ⟨u, hu, hy2 u, hK⟩
        · rename_i hw
          rw [if_neg hw]
          exact ⟨hy2 undef, key.2⟩
      refine qOp_mono (fun a' h3 => ih V _ a' hV (ready_mono hr (Ne.symm hne)) h3.1 hap' ?_) key2
      rw [Array.setIfInBounds_comm _ _ hne]
      exact h3.2

/-- The operations with effects, one after the other. -/
def effWalk (P : Program) (ops : Array Oper) (V0 : World) (Q : Exit → Act → World → Prop) : List Oper → Act → World → Prop
  | [], a, V => ∀ w, Cl V w → Q .normal a w
  | o :: l, a, V => effAt P ops V0 V o a (fun V' a' => effWalk P ops V0 Q l a' V')

theorem mixed_of_eff {V0 : World} {m : Nat} {Q : Exit → Act → World → Prop} (l : List Oper) : ∀ (k : Nat) (V : World) (done : Array Bool) (a : Act), Cl V0 V → m ≤ k → (∀ j, l[j]? = ops[k + j]?) → Region.seqB md ops l.length k done = true → effWalk P ops V0 Q l a V → mixed P md ops V0 m Q l.length V done a := by
  induction l with
  | nil => intro k V done a _ _ _ hB h; exact ⟨by simpa [Region.seqB] using hB, h⟩
  | cons o l ih =>
    intro k V done a hV hmk hl hB h
    have hk0 : ops[k]? = some o := by have := hl 0; simpa using this.symm
    rw [List.length_cons, Region.seqB, Bool.and_eq_true, decide_eq_true_eq] at hB
    refine ⟨by rw [hB.1]; simp, fun i hi => ?_⟩
    rw [hB.1] at hi
    obtain rfl : i = k := by simpa using hi
    rw [if_pos hmk]
    refine ⟨o, hk0, effAt_mono (fun V' a' hV' h' => ?_) hV h⟩
    refine ih (i + 1) V' _ a' hV' (by omega) (fun j => ?_) hB.2 h'
    have := hl (j + 1)
    rw [show i + 1 + j = i + (j + 1) by omega, ← this]
    simp

theorem mixed_of_walk {V0 : World} {A : Act} {m : Nat} {Q : Exit → Act → World → Prop} (le : List Oper) (hno : Region.noSelect ops = true) (hle : ∀ j, le[j]? = ops[m + j]?) (he : effWalk P ops V0 Q le A V0) (l : List Oper) :
    ∀ (k : Nat) (done : Array Bool) (a : Act), k + l.length = m → (∀ j, j < l.length → l[j]? = ops[k + j]?) → Region.lexHead md ops le.length l.length k done = true → calmTo P ops V0 A l a →
      mixed P md ops V0 m Q (l.length + le.length) V0 done a := by
  induction l with
  | nil =>
    intro k done a hk _ hB h
    obtain rfl : k = m := by simpa using hk
    rw [show a = A from h, List.length_nil, Nat.zero_add]
    exact mixed_of_eff le k V0 done A (cl_of (Below.refl _ _)) (Nat.le_refl _) hle (by simpa [Region.lexHead] using hB) he
  | cons o l ih =>
    intro k done a hk hl hB h
    rw [List.length_cons] at hk
    have hk0 : ops[k]? = some o := by have := hl 0 (by simp); simpa using this.symm
    rw [List.length_cons, Region.lexHead, Bool.and_eq_true, Bool.and_eq_true] at hB
    obtain ⟨v, hy, hrest⟩ := h
    rw [List.length_cons, show l.length + 1 + le.length = (l.length + le.length) + 1 by omega]
    refine mixed_at_once hk0 (by omega) hno _ V0 done a (cl_of (Below.refl _ _)) (by simpa using hB.1.1) hy (Region.free_spec hk0 hB.1.2) ?_
    refine ih (k + 1) _ _ (by omega) (fun j hj => ?_) hB.2 hrest
    have := hl (j + 1) (by simpa using hj)
    rw [show k + 1 + j = k + (j + 1) by omega, ← this]
    simp

theorem effWalk_later {V0 : World} {Q : Exit → Act → World → Prop} (l : List Oper) : ∀ (a : Act) (V V' : World), Cl V V' → effWalk P ops V0 Q l a V → effWalk P ops V0 Q l a V' := by
  induction l with
  | nil => intro a V V' h hh w hw; exact hh w (h.trans hw)
  | cons o l ih =>
    intro a V V' h hh
    simp only [effWalk] at hh ⊢
    unfold effAt at hh ⊢
    split at hh
    · rename_i hw
      rw [if_pos hw]
      exact fun w hwV => hh w (h.trans hwV)
    · rename_i hw
      rw [if_neg hw]
      exact ih _ _ _ h hh

/-- A block is made. -/
theorem eff_alloc {V0 V : World} {Q : Exit → Act → World → Prop} {o : Oper} {l : List Oper} {a : Act} (ob : Obj) (hg : o.guard = none) (hrun : ∀ w : World, (execOp a.eval o).run P w = .ok (.value (.pointer (some ⟨w.heap.size, 0, none⟩))) (w.alloc ob)) (hV : Cl V0 V)
    (h : ∀ w, Below V.heap.size V w → effWalk P ops V0 Q l (a.put o.dst (.pointer (some ⟨w.heap.size, 0, none⟩))) (w.alloc ob)) : effWalk P ops V0 Q (o :: l) a V := by
  simp only [effWalk]
  unfold effAt
  rw [if_pos (by simp [Region.wanted, hg])]
  intro w hw
  rw [hrun w]
  exact ⟨(hV.trans hw).alloc ob, h w (past_below hw)⟩

/-- A slot is written. -/
theorem eff_assign {V0 V : World} {Q : Exit → Act → World → Prop} {o : Oper} {l : List Oper} {a : Act} (v : Value) (hg : o.guard = none) (hrun : ∀ w : World, (execOp a.eval o).run P w = .ok (.value v) w) (hV : Cl V0 V)
    (h : effWalk P ops V0 Q l (a.put o.dst v) V) : effWalk P ops V0 Q (o :: l) a V := by
  simp only [effWalk]
  unfold effAt
  rw [if_pos (by simp [Region.wanted, hg])]
  intro w hw
  rw [hrun w]
  exact ⟨hV.trans hw, effWalk_later _ _ _ _ hw h⟩

theorem Cl.setCell {V w : World} (h : Cl V w) {p : Addr} (hp : p.block < V.heap.size) (u : Value) : Cl (V.setCell p u) (w.setCell p u) := by
  have hb := past_below h
  refine cl_of ⟨hb.os, hb.tape, hb.output, ?_, fun k hk => ?_⟩
  · simpa using hb.size
  · have hk' : k < V.heap.size := by simpa using hk
    simp only [World.setCell, Array.getElem?_modify]
    rw [hb.block k hk']
/-- Cells are written, one after the other. -/
def setAll (b : Nat) (l : List Value) (w : World) : World := (l.zipIdx.foldl (fun w x => w.setCell ⟨b, x.2, none⟩ x.1) w)
theorem Cl.setAll {V w : World} (h : Cl V w) {b : Nat} (hb : b < V.heap.size) (l : List Value) : Cl (setAll b l V) (setAll b l w) := by
  unfold Go.Proofs.Ytemnkfigjpphgaa.setAll
  generalize 0 = k
  induction l generalizing V w k with
  | nil => exact h
  | cons v l ih => exact ih (h.setCell hb v) (by simpa using hb) (k + 1)
theorem Cl.setOwn {V0 V : World} (h : Cl V0 V) {b : Nat} (hb : V0.heap.size ≤ b) (l : List Value) : Cl V0 (Go.Proofs.Ytemnkfigjpphgaa.setAll b l V) := by
  unfold Go.Proofs.Ytemnkfigjpphgaa.setAll
  generalize 0 = k
  induction l generalizing V k with
  | nil => exact h
  | cons v l ih => exact ih (cl_of ((past_below h).setCell hb v)) (k + 1)
/-- Cells of a block of the region's own are written. -/
theorem eff_store {V0 V : World} {Q : Exit → Act → World → Prop} {o : Oper} {l : List Oper} {a : Act} (b : Nat) (vs : List Value) (hg : o.guard = none) (hd : o.dst = none) (hb : b < V.heap.size) (hb0 : V0.heap.size ≤ b)
    (hrun : ∀ w : World, Below V.heap.size V w → ∃ v, (execOp a.eval o).run P w = .ok v (setAll b vs w) ∧ (v = .skip ∨ ∃ u, v = .value u)) (hV : Cl V0 V)
    (h : effWalk P ops V0 Q l a (setAll b vs V)) : effWalk P ops V0 Q (o :: l) a V := by
  simp only [effWalk]
  unfold effAt
  rw [if_pos (by simp [Region.wanted, hg])]
  intro w hw
  obtain ⟨v, hr, hv⟩ := hrun w (past_below hw)
  rw [hr]
  have h1 := effWalk_later _ _ _ _ (hw.setAll hb vs) h
  rcases hv with rfl | ⟨u, rfl⟩
  · exact ⟨(hV.trans hw).setOwn hb0 vs, by rw [hd]; exact h1⟩
  · exact ⟨(hV.trans hw).setOwn hb0 vs, by rw [hd]; exact h1⟩
end

theorem region_mixed {P : Program} {id : Nat} {Q : Exit → Act → World → Prop} {a : Act} {w : World} {l : List Oper} (m : Nat) (hm : P.follows .mixedOrders = true) (hB : (decide (m ≤ l.length) && Region.noSelect l.toArray && Region.lexHead .any l.toArray (l.drop m).length (l.take m).length 0 (Array.replicate l.toArray.size false)) = true)
    (hown : ownSlots a.tmps.size (l.take m) = true)
    (h : ∃ A : Act, (∀ w0, Below w.heap.size w w0 → wpQuiet P l.toArray (fun w' => ∃ x, w' = past w0 x) (fun a' => a' = A) (l.take m) a) ∧
      ∀ W : World, Below w.heap.size w W → W.heap.size = w.heap.size → effWalk P l.toArray W Q (l.drop m) A W) : (Code.region id l.toArray true).wp P Q a w := by
  simp only [Bool.and_eq_true, decide_eq_true_eq] at hB
  obtain ⟨A, h1, h2⟩ := h
  have e1 : (l.take m).length = m := by simp; omega
  have hcl : ∀ {w0 : World}, Cl w.drew w0 → Below w.heap.size w w0 := fun h0 => (Below.refl _ _).drew.trans (past_below h0)
  have H := mixed_of_walk (md := .any) (V0 := w.drew) (A := A) (m := m) (Q := Q) (l.drop m) hB.1.2 (fun j => by simp [List.getElem?_drop]) (h2 _ (Below.refl _ _).drew rfl) (l.take m) 0 (Array.replicate l.toArray.size false) a (by omega) (fun j hj => by rw [e1] at hj; simp [hj]) hB.2
    (calm_of_walks (l.take m) a hown fun w0 h0 => h1 w0 (hcl h0))
  refine wp_region_any hm ?_
  have R := any_of_mixed (Q := Q) _ _ _ _ H w.drew (cl_of (Below.refl _ _))
  have : (l.take m).length + (l.drop m).length = l.toArray.size := by simp; omega
  rw [this] at R
  exact R

section
variable {P : Program} {ops : Array Oper}
/-- A slot is written: by 'assign'. -/
theorem eff_set {V0 V : World} {Q : Exit → Act → World → Prop} {o : Oper} {l : List Oper} {a : Act} (x : Operand) (hop : o.op = .assign x) (hg : o.guard = none) (hV : Cl V0 V)
    (h : effWalk P ops V0 Q l (a.put o.dst (a.eval x)) V) : effWalk P ops V0 Q (o :: l) a V :=
  eff_assign (a.eval x) hg (fun w => BigFrame.run_assign x hop w) hV h

theorem setAll_new (w : World) (zs : Array Value) (T : TypeId) (vs : List Value) (h : vs.length = zs.size) : setAll w.heap.size vs (w.alloc (.cells zs T)) = w.alloc (.cells vs.toArray T) := by
  have step : ∀ (l : List Value) (k : Nat) (cs : Array Value), (l.zipIdx k).foldl (fun (w' : World) x => w'.setCell ⟨w.heap.size, x.2, none⟩ x.1) (w.alloc (.cells cs T)) = w.alloc (.cells ((l.zipIdx k).foldl (fun c x => c.setIfInBounds x.2 x.1) cs) T) := by
    intro l
    induction l with
    | nil => intro k cs; rfl
    | cons v l ih =>
      intro k cs
      simp only [List.zipIdx_cons, List.foldl_cons]
      rw [World.setCell_alloc_at _ _ _ _ _ rfl]
      exact ih _ _
  unfold setAll
  rw [step]
  congr 2
  have get : ∀ (l : List Value) (k : Nat) (cs : Array Value) (i : Nat), ((l.zipIdx k).foldl (fun c x => c.setIfInBounds x.2 x.1) cs)[i]? = if k ≤ i ∧ i < k + l.length ∧ i < cs.size then l[i - k]? else cs[i]? := by
    intro l
    induction l with
    | nil => intro k cs i; rw [if_neg (by simp; omega)]; rfl
    | cons v l ih =>
      intro k cs i
      simp only [List.zipIdx_cons, List.foldl_cons]
      rw [ih]
      simp only [Array.size_setIfInBounds, Array.getElem?_setIfInBounds, List.length_cons]
      by_cases h1 : k = i
      · subst h1
        rw [if_neg (by omega)]
        by_cases h2 : k < cs.size
        · simp [h2]
        · rw [if_pos rfl, if_neg h2, if_neg (fun h => h2 h.2.2), Array.getElem?_eq_none (by omega)]
      · by_cases h2 : k + 1 ≤ i ∧ i < k + 1 + l.length ∧ i < cs.size
        · rw [if_pos h2, if_pos (by omega), show i - k = (i - (k + 1)) + 1 by omega]; simp
        · rw [if_neg h2, if_neg h1, if_neg (by omega)]
  apply Array.ext_getElem?
  intro i
  rw [get]
  by_cases hi : i < vs.length
  · rw [if_pos (by omega)]; simp
  · rw [if_neg (by omega), Array.getElem?_eq_none (by omega)]; simp; omega

/-- A block is made and filled. -/
theorem eff_new {V0 V : World} {Q : Exit → Act → World → Prop} {o s : Oper} {l : List Oper} {a : Act} (zs : Array Value) (T : TypeId) (vs : List Value) (hlen : vs.length = zs.size) (hg : o.guard = none) (hg' : s.guard = none) (hd : s.dst = none)
    (hrun : ∀ w : World, (execOp a.eval o).run P w = .ok (.value (.pointer (some ⟨w.heap.size, 0, none⟩))) (w.alloc (.cells zs T))) (hV : Cl V0 V)
    (hst : ∀ (w w' : World), Below (w.heap.size + 1) (w.alloc (.cells zs T)) w' → ∃ v, (execOp (a.put o.dst (.pointer (some ⟨w.heap.size, 0, none⟩))).eval s).run P w' = .ok v (setAll w.heap.size vs w') ∧ (v = .skip ∨ ∃ u, v = .value u))
    (h : ∀ w, Below V.heap.size V w → effWalk P ops V0 Q l (a.put o.dst (.pointer (some ⟨w.heap.size, 0, none⟩))) (w.alloc (.cells vs.toArray T))) : effWalk P ops V0 Q (o :: s :: l) a V :=
  eff_alloc (.cells zs T) hg hrun hV fun w hw => by
    have h0 := (past_below (hV.trans (cl_of hw))).size
    refine eff_store w.heap.size vs hg' hd (by simp) h0 (fun w' hw' => hst w w' (by simpa using hw')) ((hV.trans (cl_of hw)).alloc _) ?_
    rw [setAll_new w zs T vs hlen]
    exact h w hw
theorem cl_refl (w : World) : Cl w w := cl_of (Below.refl _ _)
end
theorem bnew {w w' : World} {o : Obj} (hb : Below (w.heap.size + 1) (w.alloc o) w') : (∀ i, w'.cell? ⟨w.heap.size, i, none⟩ = (w.alloc o).cell? ⟨w.heap.size, i, none⟩) ∧ (∀ i, w'.frozen? ⟨w.heap.size, i, none⟩ = (w.alloc o).frozen? ⟨w.heap.size, i, none⟩) :=
  ⟨fun i => hb.cell (p := ⟨w.heap.size, i, none⟩) (by simp), fun i => hb.frozen (p := ⟨w.heap.size, i, none⟩) (by simp)⟩
end Go.Proofs.Ytemnkfigjpphgaa
