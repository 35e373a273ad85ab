/-
  Values of forms without overflow.
-/
import Derived.Test.YtemnkfigjpphgaaForm
import Derived.Test.YtemnkfigjpphgaaTail
namespace Go.Proofs.Ytemnkfigjpphgaa
open Go.RowKit
theorem wS {x : Int} (h : -9223372036854775808 ≤ x ∧ x ≤ 9223372036854775807) : wrap64 x = x := by unfold wrap64; omega
def K8 (n : Int) : Prop := -1000000000000000000 ≤ n ∧ n ≤ 1000000000000000000
theorem wK {x : Int} (h : K8 x) : wrap64 x = x := wS ⟨by have := h.1; omega, by have := h.2; omega⟩
theorem valW_of {a b c x y : Int} (h1 : K8 (a * x)) (h2 : K8 (a * x * x)) (h3 : K8 (b * x)) (h4 : K8 (b * x * y)) (h5 : K8 (c * y)) (h6 : K8 (c * y * y)) : valW a b c x y = a * x * x + b * x * y + c * y * y := by
  unfold valW
  rw [wK h1, wK h2, wK h3, wK h4, wK h5, wK h6]
  obtain ⟨a1, a2⟩ := h2
  obtain ⟨a3, a4⟩ := h4
  obtain ⟨a5, a6⟩ := h6
  rw [wS (x := a * x * x + b * x * y) ⟨by omega, by omega⟩]
  exact wS ⟨by omega, by omega⟩
theorem polW_of {a b c x y u v : Int} (h1 : K8 (2 * a)) (h2 : K8 (2 * a * x)) (h3 : K8 (2 * a * x * u)) (h4 : K8 (x * v)) (h5 : K8 (y * u)) (h6 : K8 (b * (x * v + y * u))) (h7 : K8 (2 * c)) (h8 : K8 (2 * c * y)) (h9 : K8 (2 * c * y * v)) :
    polW a b c x y u v = 2 * a * x * u + b * (x * v + y * u) + 2 * c * y * v := by
  unfold polW
  rw [wK h1, wK h2, wK h3, wK h4, wK h5, wK h7, wK h8, wK h9]
  obtain ⟨a1, a2⟩ := h3
  obtain ⟨a3, a4⟩ := h4
  obtain ⟨a5, a6⟩ := h5
  obtain ⟨a7, a8⟩ := h9
  rw [wS (x := x * v + y * u) ⟨by omega, by omega⟩, wK h6]
  obtain ⟨b1, b2⟩ := h6
  rw [wS (x := 2 * a * x * u + b * (x * v + y * u)) ⟨by omega, by omega⟩]
  exact wS ⟨by omega, by omega⟩
end Go.Proofs.Ytemnkfigjpphgaa

/-
  A region that draws its order: operations that only read and quiet calls come first, in whatever order; two stores follow, in either order.
-/
namespace Go.Proofs.Ytemnkfigjpphgaa
open Go.RowKit
section
variable {P : Program} {md : Region.Mode} {ops : Array Oper} {C : World → Prop} {n : Nat} {L : Array Bool → Act → Prop}
/-- Each operation from n on waits for all before n. -/
def waitB (md : Region.Mode) (ops : Array Oper) (n t : Nat) : Bool :=
  (List.range n).all fun i => Region.waitsFor md ops t i || (List.range n).any fun j => decide (i < j) && Region.waitsFor md ops j i
theorem tail_waits2 {t : Nat} {listed : Array Bool} (hs : waitB md ops n t = true) (hn : n ≤ ops.size) (inv : HeadInv md ops n listed) :
    ∀ (d i : Nat), n - i = d → i < n → listed.getD i true = false → t ∉ Region.ready md ops listed := by
  intro d
  induction d using Nat.strongRecOn with
  | _ d ih =>
    intro i hd hi hun hr
    obtain ⟨_, ot, hot, hall⟩ := mem_ready.1 hr
    have h1 := List.all_eq_true.1 hs i (List.mem_range.2 hi)
    simp only [Bool.or_eq_true] at h1
    rcases h1 with h1 | h1
    · obtain ⟨o', ho', e, he, hb, hon⟩ := Region.waitsFor_spec h1
      have : o' = ot := Option.some.inj (ho'.symm.trans hot)
      subst this
      have h2 := hall e he hb
      rw [hon, getD_both hun] at h2
      cases h2
    · obtain ⟨j, hj, hj2⟩ := List.any_eq_true.1 h1
      simp only [Bool.and_eq_true, decide_eq_true_eq] at hj2
      obtain ⟨oj, hoj, e, he, hb, hon⟩ := Region.waitsFor_spec hj2.2
      have hjn : j < n := List.mem_range.1 hj
      cases hl : listed.getD j false with
      | true =>
        have h2 := inv.closed j oj hoj hl e he hb
        rw [hon, getD_both hun] at h2
        cases h2
      | false =>
        have hjs : j < listed.size := by rw [inv.size]; omega
        exact ih (n - j) (by omega) j rfl hjn (getD_in hjs hl) hr
theorem head_at_once2 {i : Nat} {oi : Oper} {v : Value} (hi : ops[i]? = some oi) (hin : i < n) (hno : Region.noSelect ops = true)
    (htw : ∀ listed, HeadInv md ops n listed → ∀ i, i < n → listed.getD i true = false → ∀ t, n ≤ t → t ∉ Region.ready md ops listed)
    (hend : ∀ done a, L done a → ∀ j ∈ Region.ready md ops done, n ≤ j) (f : Nat) : ∀ (done : Array Bool) (a : Act), HeadInv md ops n done → i ∈ Region.ready md ops done → YieldsIn P ops C oi v a →
      (∀ j oj, ops[j]? = some oj → j ≠ i → done.getD j true = false → (∀ e ∈ oj.after, Region.binds md e = true → e.on ≠ i) → oi.apart ops oj = true) →
      headAny P md ops C n L f (done.setIfInBounds i true) (a.put oi.dst v) → headAny P md ops C n L (f + 1) done a := by
  have hsel := Region.noSelect_spec hno
  induction f with
  | zero =>
    intro done a inv hr hy _ H
    refine ⟨List.ne_nil_of_mem hr, fun j hj => ?_⟩
    have hjn : j < n := Nat.lt_of_not_le fun h => htw _ inv i hin (mem_ready.1 hr).1 j h hj
    refine ⟨hjn, ?_⟩
    rcases Decidable.em (j = i) with rfl | hne
    · exact hy.qOp hi H
    · exact absurd (hend _ _ H j (ready_mono hj hne)) (by omega)
  | succ f ih =>
    intro done a inv hr hy hap H
    refine ⟨List.ne_nil_of_mem hr, fun j hj => ?_⟩
    have hui := (mem_ready.1 hr).1
    have hjn : j < n := Nat.lt_of_not_le fun h => htw _ inv i hin hui j h hj
    refine ⟨hjn, ?_⟩
    rcases Decidable.em (j = i) with rfl | hne
    · exact hy.qOp hi H
    obtain ⟨huj, oj, hoj, hafter⟩ := mem_ready.1 hj
    have hwait : ∀ e ∈ oj.after, Region.binds md e = true → e.on ≠ i := by
      intro e he hb heq
      have := hafter e he hb
      rw [heq, getD_both hui] at this
      cases this
    have key := qOp_put hoj (hap j oj hoj hne huj hwait) (fun cs b => hsel i oi cs b hi) (fun cs b => hsel j oj cs b hoj) hy (H.2 j (ready_mono hj hne)).2
    refine qOp_mono (fun a' h3 => ih _ a' (inv.set hj hjn) (ready_mono hr (Ne.symm hne)) h3.1 (fun k ok hk hki hun hnw => ?_) ?_) key
    · refine hap k ok hk hki ?_ hnw
      rcases Decidable.em (j = k) with rfl | hjk
      · exact huj
      · rwa [getD_set_ne true hjk] at hun
    · rw [Array.setIfInBounds_comm _ _ hne]
      exact h3.2
/-- The end: two operations, in either order. -/
def twoB (md : Region.Mode) (ops : Array Oper) (n : Nat) (d : Array Bool) : Bool :=
  decide (Region.ready md ops d = [n, n + 1]) && decide (Region.ready md ops (d.setIfInBounds n true) = [n + 1]) && decide (Region.ready md ops (d.setIfInBounds (n + 1) true) = [n]) && (Region.ready md ops ((d.setIfInBounds n true).setIfInBounds (n + 1) true)).isEmpty && (Region.ready md ops ((d.setIfInBounds (n + 1) true).setIfInBounds n true)).isEmpty
def lexHeadE (md : Region.Mode) (ops : Array Oper) (n : Nat) : Nat → Nat → Array Bool → Bool
  | 0, _, listed => twoB md ops n listed
  | f + 1, k, listed => (Region.ready md ops listed).contains k && Region.free md ops listed k && lexHeadE md ops n f (k + 1) (listed.setIfInBounds k true)
theorem head_of_walk2 {K : Act → Prop} (hno : Region.noSelect ops = true) (hns : n ≤ ops.size)
    (htw : ∀ listed, HeadInv md ops n listed → ∀ i, i < n → listed.getD i true = false → ∀ t, n ≤ t → t ∉ Region.ready md ops listed) (l : List Oper) :
    ∀ (k : Nat) (done : Array Bool) (a : Act), k + l.length = n → (∀ j, j < l.length → l[j]? = ops[k + j]?) → HeadInv md ops n done → lexHeadE md ops n l.length k done = true → wpQuiet P ops C K l a →
      headAny P md ops C n (fun d a' => twoB md ops n d = true ∧ K a') l.length done a := by
  induction l with
  | nil =>
    intro k done a hk _ _ hB h
    exact ⟨by simpa [lexHeadE] using hB, h⟩
  | cons o l ih =>
    intro k done a hk hl inv hB h
    rw [List.length_cons] at hk
    have hk0 : ops[k]? = some o := by have := hl 0 (by simp); simpa using this.symm
    rw [List.length_cons, lexHeadE, Bool.and_eq_true, Bool.and_eq_true] at hB
    have hr : k ∈ Region.ready md ops done := by simpa using hB.1.1
    have hkn : k < n := by omega
    obtain ⟨v, hy, hK⟩ := yieldsIn_of_qOp (K := wpQuiet P ops C K l) hk0 (by unfold qOp; simp only [hk0]; exact h)
    refine head_at_once2 hk0 hkn hno htw (fun d a' hd j hj => ?_) l.length done a inv hr hy (Region.free_spec hk0 hB.1.2) ?_
    · simp only [twoB, Bool.and_eq_true, decide_eq_true_eq] at hd
      rw [hd.1.1.1.1.1] at hj
      simp only [List.mem_cons, List.not_mem_nil, or_false] at hj
      omega
    · refine ih (k + 1) _ _ (by omega) (fun j hj => ?_) (inv.set hr hkn) hB.2 hK
      have := hl (j + 1) (by simpa using hj)
      rw [show k + 1 + j = k + (j + 1) by omega, ← this]
      simp
theorem any_of_two {Q : Exit → Act → World → Prop} {o1 o2 : Oper} (h1 : ops[n]? = some o1) (h2 : ops[n + 1]? = some o2) {d : Array Bool} {a : Act} {w : World} (hB : twoB md ops n d = true) (k1 : wpList P ops Q [o1, o2] a w) (k2 : wpList P ops Q [o2, o1] a w) : wpAny P md ops Q 2 d a w := by
  simp only [twoB, Bool.and_eq_true, decide_eq_true_eq, List.isEmpty_iff] at hB
  obtain ⟨⟨⟨⟨r0, r1⟩, r2⟩, r3⟩, r4⟩ := hB
  refine ⟨fun h => (by rw [r0] at h; cases h), fun i hi => ?_⟩
  rw [r0] at hi
  simp only [List.mem_cons, List.not_mem_nil, or_false] at hi
  rcases hi with rfl | rfl
  · have hw : wpOp P ops Q i (wpList P ops Q [o2]) a w := by unfold wpOp; simp only [h1]; exact k1
    refine wpOp_mono (fun a' w' h' => ⟨fun h => (by rw [r1] at h; cases h), fun j hj => ?_⟩) hw
    rw [r1] at hj
    simp only [List.mem_cons, List.not_mem_nil, or_false] at hj
    subst hj
    have hw2 : wpOp P ops Q (i + 1) (wpList P ops Q []) a' w' := by unfold wpOp; simp only [h2]; exact h'
    exact wpOp_mono (fun a'' w'' h'' => ⟨r3, h''⟩) hw2
  · have hw : wpOp P ops Q (n + 1) (wpList P ops Q [o1]) a w := by unfold wpOp; simp only [h2]; exact k2
    refine wpOp_mono (fun a' w' h' => ⟨fun h => (by rw [r2] at h; cases h), fun j hj => ?_⟩) hw
    rw [r2] at hj
    simp only [List.mem_cons, List.not_mem_nil, or_false] at hj
    subst hj
    have hw2 : wpOp P ops Q j (wpList P ops Q []) a' w' := by unfold wpOp; simp only [h1]; exact h'
    exact wpOp_mono (fun a'' w'' h'' => ⟨r4, h''⟩) hw2
end
def twoTailB (ops : Array Oper) (n : Nat) : Bool := Region.noSelect ops && decide (ops.size = n + 2) && waitB .any ops n n && waitB .any ops n (n + 1) && lexHeadE .any ops n n 0 (Array.replicate ops.size false)
theorem wp_region_past_two {P : Program} {id : Nat} {Q : Exit → Act → World → Prop} {a : Act} {w : World} {l : List Oper} (n : Nat) (hm : P.follows .mixedOrders = true) (hB : twoTailB l.toArray n = true)
    (h : wpQuiet P l.toArray (fun w' => ∃ x, w' = past w x) (fun a' => ∀ w', (∃ x, w' = past w x) → wpList P l.toArray Q (l.drop n) a' w' ∧ wpList P l.toArray Q (l.drop n).reverse a' w') (l.take n) a) : (Code.region id l.toArray true).wp P Q a w := by
  simp only [twoTailB, Bool.and_eq_true, decide_eq_true_eq] at hB
  obtain ⟨⟨⟨⟨hno, hsz⟩, hw1⟩, hw2⟩, hlex⟩ := hB
  have hnl : l.length = n + 2 := by simpa using hsz
  have e1 : (l.take n).length = n := by simp; omega
  obtain ⟨o1, ho1⟩ : ∃ o, l[n]? = some o := ⟨l[n], List.getElem?_eq_getElem (by omega)⟩
  obtain ⟨o2, ho2⟩ : ∃ o, l[n + 1]? = some o := ⟨l[n + 1], List.getElem?_eq_getElem (by omega)⟩
  have hdrop : l.drop n = [o1, o2] := by
    have e2 : l.drop n = l[n]'(by omega) :: l.drop (n + 1) := List.drop_eq_getElem_cons (by omega)
    have e3 : l.drop (n + 1) = l[n + 1]'(by omega) :: l.drop (n + 2) := List.drop_eq_getElem_cons (by omega)
    rw [e2, e3, List.drop_eq_nil_of_le (by omega)]
    rw [List.getElem?_eq_getElem (by omega)] at ho1 ho2
    rw [Option.some.inj ho1, Option.some.inj ho2]
  have inv : HeadInv .any l.toArray n (Array.replicate l.toArray.size false) := by
    refine ⟨by simp, fun j oj _ hl => ?_, fun t _ ht => ?_⟩
    · rw [getD_replicate_false] at hl; cases hl
    · exact getD_in (by simpa using ht) (getD_replicate_false _ _)
  have htw : ∀ listed, HeadInv .any l.toArray n listed → ∀ i, i < n → listed.getD i true = false → ∀ t, n ≤ t → t ∉ Region.ready .any l.toArray listed := by
    intro listed hi i hin hun t ht hr
    obtain ⟨_, ot, hot, _⟩ := mem_ready.1 hr
    have htlt : t < l.toArray.size := (Array.getElem?_eq_some_iff.1 hot).1
    rcases (show t = n ∨ t = n + 1 by omega) with rfl | rfl
    · exact tail_waits2 hw1 (by omega) hi _ i rfl hin hun hr
    · exact tail_waits2 hw2 (by omega) hi _ i rfl hin hun hr
  have H := head_of_walk2 (md := .any) hno (by omega) htw (l.take n) 0 _ a (by omega) (fun j hj => by rw [e1] at hj; simp [hj]) inv (by rw [e1]; exact hlex) h
  refine wp_region_any hm ?_
  have R := any_of_head (Q := Q) (g := 2) (fun d a' hd w' hw' => by
    obtain ⟨k1, k2⟩ := hd.2 w' hw'
    rw [hdrop] at k1 k2
    exact any_of_two (by simpa using ho1) (by simpa using ho2) hd.1 k1 k2) _ _ _ H { w with drawn := w.drawn + 1 } ⟨⟨w.drew, (Below.refl _ _).drew⟩, rfl⟩
  rw [e1, show n + 2 = l.toArray.size by omega] at R
  exact R
end Go.Proofs.Ytemnkfigjpphgaa
