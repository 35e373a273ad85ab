/-
  A region that draws its order: quiet operations that may come at any time, operations with effects in one order (also calls whose answers hang on where memory lies), and a tail in one forced order.
-/
import Derived.Test.YtemnkfigjpphgaaTail
import Derived.Maps.AppendAt
import Derived.Deep.AppendLies
import Derived.OwnWalk
namespace Go.Proofs.Ytemnkfigjpphgaa
open Go.RowKit
section
variable {P : Program} {md : Region.Mode} {ops : Array Oper} {n : Nat}

/-- What an operation with an effect owes. -/
def EffQ (V0 : World) (a : Act) (K : World → Act → Prop) (ex : Exit) (a' : Act) (w' : World) : Prop := ex = .normal ∧ a'.defers = a.defers ∧ Cl V0 w' ∧ K w' a'
theorem effQ_lets {V0 : World} {a : Act} {K : World → Act → Prop} : ¬ LetsOut (EffQ V0 a K) := fun ⟨_, _, h, _⟩ => by cases h
/-- An operation with an effect, walked by itself. -/
def effM (P : Program) (ops : Array Oper) (V0 V : World) (o : Oper) (a : Act) (K : World → Act → Prop) : Prop :=
  ∀ w, Cl V w → wpList P ops (EffQ V0 a K) [o] a w

theorem upon_mono2 {o : Oper} {a : Act} {K K' : Act → World → Prop} {Q Q' : Exit → Act → World → Prop} (hK : ∀ a w, K a w → K' a w) (hQ : ∀ x a w, Q x a w → x ≠ .normal → Q' x a w) (r : Result Next) (h : o.upon P a K Q r) : o.upon P a K' Q' r := by
  unfold Oper.upon at *
  split at h
  · exact hK _ _ h
  · exact hK _ _ h
  · exact hK _ _ h
  · refine h.mono fun e w'' he => ?_
    split at he
    · exact hK _ _ he
    · exact hQ _ _ _ he (by simp)
    · obtain ⟨b, w3, hb⟩ := he
      exact ⟨b, w3, hQ _ _ _ hb (by simp)⟩
  · exact Rows.mono h fun v w' hv => hK _ _ hv
  · exact hQ _ _ _ h (by simp)
  · exact h.elim

theorem effM_op {V0 V : World} {i : Nat} {o : Oper} {a : Act} {K : World → Act → Prop} {Q : Exit → Act → World → Prop} {G : Act → World → Prop} (hi : ops[i]? = some o) (h : effM P ops V0 V o a K) (hG : ∀ a' w', Cl V0 w' → K w' a' → G a' w') (w : World) (hw : Cl V w) : wpOp P ops Q i G a w := by
  have h1 := h w hw
  unfold wpOp
  simp only [hi]
  simp only [wpList] at h1
  split at h1
  · rename_i hwt
    rw [if_pos hwt]
    rcases h1 with h1 | h1
    · left
      exact upon_mono2 (fun a' w' hh => hG a' w' hh.2.2.1 hh.2.2.2) (fun x a' w' hh hx => absurd hh.1 hx) _ h1
    · exact absurd h1.2 effQ_lets
  · rename_i hwt
    rw [if_neg hwt]
    exact hG _ _ h1.2.2.1 h1.2.2.2

/-- Whatever order is taken. -/
def mixM (P : Program) (md : Region.Mode) (ops : Array Oper) (V0 : World) (q : Nat → Bool) (n : Nat) (L : World → Array Bool → Act → Prop) : Nat → World → Array Bool → Act → Prop
  | 0, V, done, a => L V done a
  | f + 1, V, done, a => Region.ready md ops done ≠ [] ∧ ∀ i ∈ Region.ready md ops done, i < n ∧
      if q i then qOp P ops (Cl V) i (mixM P md ops V0 q n L f V (done.setIfInBounds i true)) a
      else ∃ o, ops[i]? = some o ∧ effM P ops V0 V o a (fun V' a' => mixM P md ops V0 q n L f V' (done.setIfInBounds i true) a')

theorem any_of_mixM {V0 : World} {q : Nat → Bool} {L : World → Array Bool → Act → Prop} {g : Nat} {Q : Exit → Act → World → Prop} (hL : ∀ V done a, L V done a → ∀ w, Cl V w → wpAny P md ops Q g done a w) (f : Nat) :
    ∀ (V : World) (done : Array Bool) (a : Act), mixM P md ops V0 q n L f V done a → ∀ w, Cl V w → wpAny P md ops Q (f + g) done a w := by
  induction f with
  | zero => intro V done a h w hw; rw [Nat.zero_add]; exact hL V done a h w hw
  | succ f ih =>
    intro V done a h w hw
    rw [show f + 1 + g = (f + g) + 1 by omega]
    refine ⟨fun h0 => absurd h0 h.1, fun i hi => ?_⟩
    have h2 := (h.2 i hi).2
    split at h2
    · exact wpOp_of_qOp hw (fun a' w' hw' h' => ih _ _ a' h' w' hw') h2
    · obtain ⟨o, ho, he⟩ := h2
      exact effM_op ho he (fun a' w' _ hk => ih _ _ _ hk _ (cl_refl _)) w hw

/-- A quiet operation beside one with an effect. -/
theorem effM_put {V0 V : World} {oi o : Oper} {a : Act} {v : Value} {K K' : World → Act → Prop} (hap : oi.apart ops o = true) (hs : ∀ cs b, o.op ≠ .select cs b)
    (hK : ∀ V' u, Cl V0 V' → K V' ((a.put o.dst u).put oi.dst v) → K' V' (a.put o.dst u)) (h : effM P ops V0 V o (a.put oi.dst v) K) : effM P ops V0 V o a K' := by
  obtain ⟨h1, h2, _⟩ := Oper.apart_spec hap
  intro w hw
  have hh := h w hw
  have hd : (a.put oi.dst v).defers = a.defers := by cases oi.dst <;> rfl
  have hdo : ∀ u, (a.put o.dst u).defers = a.defers := fun u => by cases o.dst <;> rfl
  simp only [wpList] at hh ⊢
  rw [wanted_put o a oi.dst v h1] at hh
  split at hh
  · rename_i hwt
    rw [if_pos hwt]
    rcases hh with hh | hh
    · left
      unfold Oper.wp at hh ⊢
      rw [execOp_put o hs a oi.dst v h1] at hh
      generalize (execOp a.eval o).run P w = r at *
      have key : ∀ u w', EffQ V0 (a.put oi.dst v) K .normal ((a.put oi.dst v).put o.dst u) w' → EffQ V0 a K' .normal (a.put o.dst u) w' := fun u w' hq => by
        refine ⟨rfl, hdo u, hq.2.2.1, hK _ _ hq.2.2.1 ?_⟩
        rw [← Act.put_comm a v u h2]
        exact hq.2.2.2
      unfold Oper.upon at hh ⊢
      split at hh
      · exact key _ _ hh
      · exact key _ _ hh
      · have : ∀ (b : Act) u, (b.put o.dst u).defers = b.defers := fun b u => by cases o.dst <;> rfl
        have he := hh.2.1
        rw [this] at he
        simp at he
      · refine hh.mono fun e w'' he => ?_
        split at he
        · exact key _ _ he
        · cases he.1
        · exact absurd he effQ_lets
      · exact Rows.mono hh fun u w' hv => key _ _ hv
      · cases hh.1
      · exact hh.elim
    · exact absurd hh.2 effQ_lets
  · rename_i hwt
    rw [if_neg hwt]
    refine ⟨rfl, hdo _, hh.2.2.1, hK _ _ hh.2.2.1 ?_⟩
    rw [← Act.put_comm a v undef h2]
    exact hh.2.2.2

theorem mixM_at_once {V0 : World} {q : Nat → Bool} {L : World → Array Bool → Act → Prop} {i : Nat} {oi : Oper} {v : Value} (hi : ops[i]? = some oi) (hin : i < n) (hq : q i = true) (hn : n < ops.size) (hno : Region.noSelect ops = true) (hs : Region.sinkB md ops n = true) (hc : Region.chainB md ops n = true)
    (hend : ∀ V done a, L V done a → ∀ j ∈ Region.ready md ops done, n ≤ j) (f : Nat) : ∀ (V : World) (done : Array Bool) (a : Act), Cl V0 V → HeadInv md ops n done → i ∈ Region.ready md ops done → CalmY P ops V0 oi v a →
      (∀ j oj, ops[j]? = some oj → j ≠ i → done.getD j true = false → (∀ e ∈ oj.after, Region.binds md e = true → e.on ≠ i) → oi.apart ops oj = true) →
      mixM P md ops V0 q n L f V (done.setIfInBounds i true) (a.put oi.dst v) → mixM P md ops V0 q n L (f + 1) V done a := by
  have hsel := Region.noSelect_spec hno
  induction f with
  | zero =>
    intro V done a hV inv hr hy _ H
    refine ⟨List.ne_nil_of_mem hr, fun j hj => ?_⟩
    have hjn : j < n := Nat.lt_of_not_le fun h => tail_waits hs hc hn inv _ i rfl hin (mem_ready.1 hr).1 j h hj
    refine ⟨hjn, ?_⟩
    rcases Decidable.em (j = i) with rfl | hne
    · rw [if_pos hq]; exact (hy.later hV).qOp hi H
    · exact absurd (hend _ _ _ H j (ready_mono hj hne)) (by omega)
  | succ f ih =>
    intro V done a hV inv hr hy hap H
    refine ⟨List.ne_nil_of_mem hr, fun j hj => ?_⟩
    have hui := (mem_ready.1 hr).1
    have hjn : j < n := Nat.lt_of_not_le fun h => tail_waits hs hc hn inv _ i rfl hin hui j h hj
    refine ⟨hjn, ?_⟩
    rcases Decidable.em (j = i) with rfl | hne
    · rw [if_pos hq]; exact (hy.later hV).qOp hi H
    obtain ⟨huj, oj, hoj, hafter⟩ := mem_ready.1 hj
    have hwait : ∀ e ∈ oj.after, Region.binds md e = true → e.on ≠ i := by
      intro e he hb heq
      have := hafter e he hb
      rw [heq, getD_both hui] at this
      cases this
    have hapj := hap j oj hoj hne huj hwait
    have hap' : ∀ k ok, ops[k]? = some ok → k ≠ i → (done.setIfInBounds j true).getD k true = false → (∀ e ∈ ok.after, Region.binds md e = true → e.on ≠ i) → oi.apart ops ok = true := by
      intro k ok hk hki hun hnw
      refine hap k ok hk hki ?_ hnw
      rcases Decidable.em (j = k) with rfl | hjk
      · exact huj
      · rwa [getD_set_ne true hjk] at hun
    have hy2 : ∀ u, CalmY P ops V0 oi v (a.put oj.dst u) := fun u => hy.put_ hapj (fun cs b => hsel i oi cs b hi) u
    have H2 := (H.2 j (ready_mono hj hne)).2
    split at H2
    · rename_i hqj
      rw [if_pos hqj]
      have key := calm_put (V := V) hoj hapj (fun cs b => hsel i oi cs b hi) (fun cs b => hsel j oj cs b hoj) (fun w0 h0 => hy w0 (hV.trans h0)) H2
      have key2 : qOp P ops (Cl V) j (fun a' => CalmY P ops V0 oi v a' ∧ mixM P md ops V0 q n L f V ((done.setIfInBounds i true).setIfInBounds j true) (a'.put oi.dst v)) a := by
        unfold qOp at key ⊢
        simp only [hoj] at key ⊢
        split at key
        · rename_i hw
          rw [if_pos hw]
          obtain ⟨u, hu, _, hK⟩ := key
          exact ⟨u, hu, hy2 u, hK⟩
        · rename_i hw
          rw [if_neg hw]
          exact ⟨hy2 undef, key.2⟩
      refine qOp_mono (fun a' h3 => ih V _ a' hV (inv.set hj hjn) (ready_mono hr (Ne.symm hne)) h3.1 hap' ?_) key2
      rw [Array.setIfInBounds_comm _ _ hne]
      exact h3.2
    · rename_i hqj
      rw [if_neg hqj]
      obtain ⟨o', ho', he⟩ := H2
      obtain rfl : o' = oj := Option.some.inj (ho'.symm.trans hoj)
      refine ⟨o', ho', effM_put hapj (fun cs b => hsel j o' cs b hoj) (fun V' u hV' hK => ?_) he⟩
      refine ih V' _ _ hV' (inv.set hj hjn) (ready_mono hr (Ne.symm hne)) (hy2 u) hap' ?_
      rw [Array.setIfInBounds_comm _ _ hne]
      exact hK

/-- The operations with effects, one after the other; a quiet one may stand among them ('true'). -/
def effW (P : Program) (ops : Array Oper) (V0 : World) (R : World → Act → Prop) : List (Bool × Oper) → Act → World → Prop
  | [], a, V => R V a
  | (false, o) :: l, a, V => effM P ops V0 V o a (fun V' a' => effW P ops V0 R l a' V')
  | (true, o) :: l, a, V => ownSlots a.tmps.size [o] = true ∧ ∃ A : Act, (∀ w0, Below V0.heap.size V0 w0 → wpQuiet P ops (fun w' => ∃ x, w' = past w0 x) (fun a' => a' = A) [o] a) ∧ effW P ops V0 R l A V

/-- The order of the effects, and then the tail. -/
def seqE (md : Region.Mode) (ops : Array Oper) (g n : Nat) : List (Bool × Nat) → Array Bool → Bool
  | [], done => Region.seqB md ops g n done
  | (false, k) :: es, done => decide (Region.ready md ops done = [k]) && decide (k < n) && seqE md ops g n es (done.setIfInBounds k true)
  | (true, k) :: es, done => (Region.ready md ops done).contains k && decide (k < n) && Region.free md ops done k && seqE md ops g n es (done.setIfInBounds k true)
/-- The quiet operations first. -/
def seqQ (md : Region.Mode) (ops : Array Oper) (g n : Nat) (es : List (Bool × Nat)) : List Nat → Array Bool → Bool
  | [], done => seqE md ops g n es done
  | k :: qs, done => (Region.ready md ops done).contains k && decide (k < n) && Region.free md ops done k && seqQ md ops g n es qs (done.setIfInBounds k true)

theorem mixM_of_eff {V0 : World} {q : Nat → Bool} {g : Nat} {R : World → Act → Prop} (hn : n < ops.size) (hno : Region.noSelect ops = true) (hs : Region.sinkB md ops n = true) (hc : Region.chainB md ops n = true) (es : List (Bool × Nat)) :
    ∀ (l : List (Bool × Oper)) (V : World) (done : Array Bool) (a : Act), Cl V0 V → (es.map fun k => (ops[k.2]?).map fun o => (k.1, o)) = l.map some → (∀ k ∈ es, q k.2 = k.1) → HeadInv md ops n done → seqE md ops g n es done = true → effW P ops V0 R l a V →
    mixM P md ops V0 q n (fun V d a' => Region.seqB md ops g n d = true ∧ R V a') es.length V done a := by
  induction es with
  | nil =>
    intro l V done a _ hl _ _ hB h
    obtain rfl : l = [] := by cases l with | nil => rfl | cons => simp at hl
    exact ⟨hB, h⟩
  | cons k es ih =>
    intro l V done a hV hl hq inv hB h
    obtain ⟨o, l, rfl⟩ : ∃ o l', l = o :: l' := by cases l with | nil => simp at hl | cons o l => exact ⟨o, l, rfl⟩
    obtain ⟨fl, k⟩ := k
    simp only [List.map_cons, List.cons.injEq] at hl
    obtain ⟨hl1, hl2⟩ := hl
    obtain ⟨o', ho', he'⟩ : ∃ o', ops[k]? = some o' ∧ o = (fl, o') := by
      cases hk : ops[k]? with
      | none => rw [hk] at hl1; simp at hl1
      | some o' => rw [hk] at hl1; simp at hl1; exact ⟨o', rfl, hl1.symm⟩
    subst he'
    have hq0 : q k = fl := hq (fl, k) (by simp)
    cases fl with
    | false =>
      simp only [seqE, Bool.and_eq_true, decide_eq_true_eq] at hB
      have hrk : k ∈ Region.ready md ops done := by rw [hB.1.1]; simp
      refine ⟨by rw [hB.1.1]; simp, fun i hi => ?_⟩
      rw [hB.1.1] at hi
      obtain rfl : i = k := by simpa using hi
      refine ⟨hB.1.2, ?_⟩
      rw [if_neg (by rw [hq0]; decide)]
      refine ⟨o', ho', fun w hw => ?_⟩
      have := h w hw
      have conv : ∀ ex a' w', EffQ V0 a (fun V' a' => effW P ops V0 R l a' V') ex a' w' → EffQ V0 a (fun V' a' => mixM P md ops V0 q n (fun V d a' => Region.seqB md ops g n d = true ∧ R V a') es.length V' (done.setIfInBounds i true) a') ex a' w' :=
        fun ex a' w' hh => ⟨hh.1, hh.2.1, hh.2.2.1, ih l w' _ a' hh.2.2.1 hl2 (fun k hk => hq k (by simp [hk])) (inv.set hrk hB.1.2) hB.2 hh.2.2.2⟩
      simp only [wpList] at this ⊢
      split at this
      · rename_i hwt
        rw [if_pos hwt]
        rcases this with h1 | h1
        · exact Or.inl (upon_mono2 (fun a' w' hh => conv _ a' w' hh) (fun x a' w' hh hx => absurd hh.1 hx) _ h1)
        · exact absurd h1.2 effQ_lets
      · rename_i hwt
        rw [if_neg hwt]
        exact conv _ _ _ this
    | true =>
      simp only [seqE, Bool.and_eq_true, decide_eq_true_eq] at hB
      obtain ⟨hown, A, hA, hrest⟩ := h
      obtain ⟨v, hy, hput⟩ := calm_of_walks (V := V0) (A := A) [o'] a hown fun w0 h0 => hA w0 (past_below h0)
      have hr : k ∈ Region.ready md ops done := by simpa using hB.1.1.1
      refine mixM_at_once (L := fun V d a' => Region.seqB md ops g n d = true ∧ R V a') ho' hB.1.1.2 hq0 hn hno hs hc (fun (V : World) d a' (hd : Region.seqB md ops g n d = true ∧ R V a') => seqB_ready hd.1) _ V done a hV inv hr hy (Region.free_spec ho' hB.1.2) ?_
      refine ih l V _ _ hV hl2 (fun k hk => hq k (by simp [hk])) (inv.set hr hB.1.1.2) hB.2 ?_
      have hput' : a.put o'.dst v = A := hput
      rw [hput']
      exact hrest

theorem mixM_of_walk {V0 : World} {q : Nat → Bool} {A : Act} {g : Nat} {R : World → Act → Prop} (hn : n < ops.size) (hno : Region.noSelect ops = true) (hs : Region.sinkB md ops n = true) (hc : Region.chainB md ops n = true) (es : List (Bool × Nat)) (le : List (Bool × Oper)) (hle : (es.map fun k => (ops[k.2]?).map fun o => (k.1, o)) = le.map some) (hqe : ∀ k ∈ es, q k.2 = k.1) (he : effW P ops V0 R le A V0) (qs : List Nat) :
    ∀ (l : List Oper) (done : Array Bool) (a : Act), (qs.map fun k => ops[k]?) = l.map some → (∀ k ∈ qs, q k = true) → HeadInv md ops n done → seqQ md ops g n es qs done = true → calmTo P ops V0 A l a →
      mixM P md ops V0 q n (fun V d a' => Region.seqB md ops g n d = true ∧ R V a') (qs.length + es.length) V0 done a := by
  induction qs with
  | nil =>
    intro l done a hl _ inv hB h
    obtain rfl : l = [] := by cases l with | nil => rfl | cons => simp at hl
    rw [show a = A from h, List.length_nil, Nat.zero_add]
    exact mixM_of_eff hn hno hs hc es le V0 done A (cl_refl _) hle hqe inv hB he
  | cons k qs ih =>
    intro l done a hl hq inv hB h
    obtain ⟨o, l, rfl⟩ : ∃ o l', l = o :: l' := by cases l with | nil => simp at hl | cons o l => exact ⟨o, l, rfl⟩
    simp only [List.map_cons, List.cons.injEq] at hl
    simp only [seqQ, Bool.and_eq_true, decide_eq_true_eq] at hB
    obtain ⟨v, hy, hrest⟩ := h
    have hr : k ∈ Region.ready md ops done := by simpa using hB.1.1.1
    rw [List.length_cons, show qs.length + 1 + es.length = (qs.length + es.length) + 1 by omega]
    refine mixM_at_once (L := fun V d a' => Region.seqB md ops g n d = true ∧ R V a') hl.1 hB.1.1.2 (hq k (by simp)) hn hno hs hc (fun (V : World) d a' (hd : Region.seqB md ops g n d = true ∧ R V a') => seqB_ready hd.1) _ V0 done a (cl_refl _) inv hr hy (Region.free_spec hl.1 hB.1.2) ?_
    exact ih l _ _ hl.2 (fun k hk => hq k (by simp [hk])) (inv.set hr hB.1.1.2) hB.2 hrest
end
theorem map_pick2 {l : List Oper} (ks : List (Bool × Nat)) (h : ks.all (fun k => decide (k.2 < l.length)) = true) : (ks.map fun k => (l.toArray[k.2]?).map fun o => (k.1, o)) = (ks.filterMap fun k => (l[k.2]?).map fun o => (k.1, o)).map some := by
  induction ks with
  | nil => rfl
  | cons k ks ih =>
    simp only [List.all_cons, Bool.and_eq_true, decide_eq_true_eq] at h
    simp only [List.map_cons, List.getElem?_toArray]
    rw [List.filterMap_cons, List.getElem?_eq_getElem h.1]
    simp only [List.map_cons, Option.map_some]
    rw [← ih h.2]
    simp
theorem map_pick {l : List Oper} (ks : List Nat) (h : ks.all (fun k => decide (k < l.length)) = true) : (ks.map fun k => l.toArray[k]?) = (ks.filterMap fun k => l[k]?).map some := by
  induction ks with
  | nil => rfl
  | cons k ks ih =>
    simp only [List.all_cons, Bool.and_eq_true, decide_eq_true_eq] at h
    simp only [List.map_cons, List.getElem?_toArray]
    rw [List.filterMap_cons, List.getElem?_eq_getElem h.1]
    simp only [List.map_cons]
    rw [← ih h.2]
    simp
def mixB (ops : Array Oper) (n : Nat) (qs : List Nat) (es : List (Bool × Nat)) : Bool :=
  Region.noSelect ops && decide (n < ops.size) && Region.sinkB .any ops n && Region.chainB .any ops n && decide (qs.length + es.length = n) && es.all (fun k => (qs.contains k.2 || es.contains (true, k.2)) == k.1) && qs.all (fun k => decide (k < ops.size)) && es.all (fun k => decide (k.2 < ops.size)) && seqQ .any ops (ops.size - n) n es qs (Array.replicate ops.size false)
theorem region_mix {P : Program} {id : Nat} {Q : Exit → Act → World → Prop} {a : Act} {w : World} {l : List Oper} (n : Nat) (qs : List Nat) (es : List (Bool × Nat)) (hm : P.follows .mixedOrders = true) (hB : mixB l.toArray n qs es = true)
    (hown : ownSlots a.tmps.size (qs.filterMap fun k => l[k]?) = true)
    (h : ∃ A : Act, (∀ w0, Below w.heap.size w w0 → wpQuiet P l.toArray (fun w' => ∃ x, w' = past w0 x) (fun a' => a' = A) (qs.filterMap fun k => l[k]?) a) ∧
      ∀ W : World, Below w.heap.size w W → W.heap.size = w.heap.size → effW P l.toArray W (fun V a' => ∀ w', Cl V w' → wpList P l.toArray Q (l.drop n) a' w') (es.filterMap fun k => (l[k.2]?).map fun o => (k.1, o)) A W) : (Code.region id l.toArray true).wp P Q a w := by
  simp only [mixB, Bool.and_eq_true, decide_eq_true_eq] at hB
  obtain ⟨⟨⟨⟨⟨⟨⟨⟨hno, hn⟩, hs⟩, hc⟩, hlen⟩, hdis⟩, hqa⟩, hea⟩, hseq⟩ := hB
  obtain ⟨A, h1, h2⟩ := h
  have hcl : ∀ {w0 : World}, Cl w.drew w0 → Below w.heap.size w w0 := fun h0 => (Below.refl _ _).drew.trans (past_below h0)
  have inv : HeadInv .any l.toArray n (Array.replicate l.toArray.size false) := by
    refine ⟨by simp, fun j oj _ hl => ?_, fun t _ ht => ?_⟩
    · rw [getD_replicate_false] at hl; cases hl
    · exact getD_in (by simpa using ht) (getD_replicate_false _ _)
  have H := mixM_of_walk (md := .any) (V0 := w.drew) (q := fun i => qs.contains i || es.contains (true, i)) (A := A) (g := l.toArray.size - n) (R := fun V a' => ∀ w', Cl V w' → wpList P l.toArray Q (l.drop n) a' w') hn hno hs hc es (es.filterMap fun k => (l[k.2]?).map fun o => (k.1, o)) (map_pick2 es (by simpa using hea))
    (fun k hk => by have := List.all_eq_true.1 hdis k hk; simpa only [beq_iff_eq] using this) (h2 _ (Below.refl _ _).drew rfl) qs (qs.filterMap fun k => l[k]?) _ a (map_pick qs (by simpa using hqa)) (fun k hk => by simp [hk]) inv hseq
    (calm_of_walks _ a hown fun w0 h0 => h1 w0 (hcl h0))
  refine wp_region_any hm ?_
  have e2 : (l.drop n).length = l.toArray.size - n := by simp
  have R := any_of_mixM (Q := Q) (g := l.toArray.size - n) (fun V d a' hd w' hw' => by
    have := wpAny_of_seq (md := .any) (Q' := Q) (l.drop n) n d a' w' (fun j => by simp [List.getElem?_drop]) (by rw [e2]; exact hd.1) (hd.2 w' hw')
    rwa [e2] at this) _ _ _ _ H w.drew (cl_refl _)
  rw [hlen, show n + (l.toArray.size - n) = l.toArray.size by omega] at R
  exact R
theorem effQuiet {P : Program} {ops : Array Oper} {V0 V : World} {R : World → Act → Prop} {o : Oper} {l : List (Bool × Oper)} {a : Act} (ho : ownSlots a.tmps.size [o] = true) (h : ∃ A : Act, (∀ w0, Below V0.heap.size V0 w0 → wpQuiet P ops (fun w' => ∃ x, w' = past w0 x) (fun a' => a' = A) [o] a) ∧ effW P ops V0 R l A V) : effW P ops V0 R ((true, o) :: l) a V := ⟨ho, h⟩
/-- One step of the effects: what the walk leaves. -/
theorem effM_of {P : Program} {ops : Array Oper} {V0 V : World} {o : Oper} {a : Act} {K : World → Act → Prop} (h : ∀ w, Below V.heap.size V w → wpList P ops (EffQ V0 a K) [o] a w) : effM P ops V0 V o a K := fun w hw => h w (past_below hw)
theorem effQ_of {V0 : World} {a a' : Act} {K : World → Act → Prop} {w' : World} (hd : a'.defers = a.defers) (hc : Below V0.heap.size V0 w') (hk : K w' a') : EffQ V0 a K .normal a' w' := ⟨rfl, hd, cl_of hc, hk⟩
end Go.Proofs.Ytemnkfigjpphgaa

/-
  The ends of walks whose results lie behind many calls.
-/
namespace Go.Proofs.Ytemnkfigjpphgaa
open Go.RowKit
theorem bG {B : Nat} {W w1 : World} (hb : Below B W w1) {b o : Nat} (h : b < B) : w1.cell? ⟨b, o, none⟩ = W.cell? ⟨b, o, none⟩ := hb.cell (p := ⟨b, o, none⟩) h
theorem fG {B : Nat} {W w1 : World} (hb : Below B W w1) {b o : Nat} (h : b < B) : w1.frozen? ⟨b, o, none⟩ = W.frozen? ⟨b, o, none⟩ := hb.frozen (p := ⟨b, o, none⟩) h
theorem set_other (w : World) (b i b' i' : Nat) (v : Value) (h : b ≠ b' ∨ i ≠ i') : (w.setCell ⟨b, i, none⟩ v).cell? ⟨b', i', none⟩ = w.cell? ⟨b', i', none⟩ :=
  World.cell?_setCell_other _ _ _ _ fun e => by
    injection e with e1 e2
    omega
theorem set_same (w : World) (b i : Nat) (v u : Value) (h : w.cell? ⟨b, i, none⟩ = some u) : (w.setCell ⟨b, i, none⟩ v).cell? ⟨b, i, none⟩ = some v := World.cell?_setCell_same _ _ _ h
theorem isSome_of {w : World} {a : Addr} {v : Option Value} (h : w.cell? a = v) (hv : v.isSome = true) : (w.cell? a).isSome = true := by rw [h]; exact hv
end Go.Proofs.Ytemnkfigjpphgaa

/-
  Rows that a call itself makes: lists of integers and of structs of integers. What the laws do with them: comparing, marking, looking at the marks.
-/
namespace Go.Proofs.Ytemnkfigjpphgaa
open Go.RowKit

section
variable {α : Type} {cs : α → List Value} {s : Nat}
theorem flat_length (hs : ∀ x, (cs x).length = s) (l : List α) : (l.flatMap cs).length = l.length * s := by
  induction l with
  | nil => simp
  | cons x l ih => rw [List.flatMap_cons, List.length_append, ih, hs, List.length_cons, Nat.add_mul]; omega
theorem flat_get (hs : ∀ x, (cs x).length = s) (l : List α) : ∀ (k o : Nat) (x : α), l[k]? = some x → o < s → (l.flatMap cs)[k * s + o]? = (cs x)[o]? := by
  induction l with
  | nil => intro k o x h; simp at h
  | cons y l ih =>
    intro k o x h ho
    rw [List.flatMap_cons]
    cases k with
    | zero =>
      obtain rfl : y = x := by simpa using h
      rw [Nat.zero_mul, Nat.zero_add, List.getElem?_append_left (by rw [hs]; exact ho)]
    | succ k =>
      rw [List.getElem?_append_right (by rw [hs, Nat.add_mul]; omega), hs, show (k + 1) * s + o - s = k * s + o by rw [Nat.add_mul]; omega]
      exact ih k o x (by simpa using h) ho
end

theorem grown_of {w w' : World} (h : Below w.heap.size w w') (r : Option Nat) : w.grownBy w' r := ⟨h.os, h.tape, h.output, h.size, fun k hk _ => h.block k hk⟩

/-- The list lies in a row of the call's own, in a block from B on. -/
def Rw {α : Type} (B : Nat) (t : TypeId) (s : Nat) (cs : α → List Value) (w : World) (v : Value) (l : List α) : Prop := w.ownsRow B t s v l.length (l.flatMap cs)

section
variable {α : Type} {B B' : Nat} {t : TypeId} {cs : α → List Value} {s : Nat} {w w' : World} {v : Value} {l : List α} {a : Option Addr}
theorem Rw.lower (h : Rw B t s cs w v l) (hb : Below B' w w') (hlt : ∀ g, v.ownBlock = some g → g < B') : Rw B t s cs w' v l := by
  refine ⟨h.1, ?_⟩
  rcases h.2 with hn | ⟨g, cap, cur, rfl, hbg, hg, rest⟩
  · exact .inl hn
  · exact .inr ⟨g, cap, cur, rfl, hbg, by rw [hb.block g (hlt g rfl)]; exact hg, rest⟩
theorem Rw.lt (h : Rw B t s cs w v l) : ∀ g, v.ownBlock = some g → B ≤ g ∧ g < w.heap.size := World.ownsRow.lt h
theorem Rw.later (h : Rw B t s cs w v l) (hb : Below w.heap.size w w') : Rw B t s cs w' v l := h.lower hb fun g hg => (h.lt g hg).2
theorem Rw.apart (h : Rw B t s cs w v l) {row : Option Nat} (hg : w.grownBy w' row) (hne : v.ownBlock = none ∨ v.ownBlock ≠ row) : Rw B t s cs w' v l := World.ownsRow.kept h hg hne
theorem Rw.alloc (h : Rw B t s cs w v l) (o : Obj) : Rw B t s cs (w.alloc o) v l := World.ownsRow.alloc h o
theorem Rw.mono (h : Rw B t s cs w v l) (hB : B' ≤ B) : Rw B' t s cs w v l := by
  refine ⟨h.1, ?_⟩
  rcases h.2 with hn | ⟨g, cap, cur, rfl, hbg, rest⟩
  · exact .inl hn
  · exact .inr ⟨g, cap, cur, rfl, Nat.le_trans hB hbg, rest⟩
theorem Rw.nil (B : Nat) (t : TypeId) (s : Nat) (cs : α → List Value) (w : World) : Rw B t s cs w (.slice none 0 0) [] := World.ownsRow_nil _ _ _ _
theorem Rw.empty (hB : B ≤ w.heap.size) : Rw B t s cs (w.alloc (.cells #[] t)) (.slice (some ⟨w.heap.size, 0, none⟩) 0 0) [] :=
  World.ownsRow_made w #[] 0 hB (by decide) (by simp)
theorem Rw.empty2 {g : Nat} (hB : B ≤ g) (hg : w.heap.size = g) : Rw B t s cs (w.alloc (.cells #[] t)) (.slice (some ⟨g, 0, none⟩) 0 0) ([] : List α) := by
  subst hg
  exact Rw.empty hB
/-- What a walk asks of such a row. -/
def Sees (B : Nat) (s : Nat) (cs : α → List Value) (w : World) (a : Option Addr) (l : List α) : Prop :=
  l.length = 0 ∨ ∃ g, a = some ⟨g, 0, none⟩ ∧ B ≤ g ∧ g < w.heap.size ∧ (∀ (k : Nat) (x : α), l[k]? = some x → ∀ o, o < s → w.cell? ⟨g, k * s + o, none⟩ = (cs x)[o]?) ∧ (∀ o, w.frozen? ⟨g, o, none⟩ = false)
theorem Rw.sees (h : Rw B t s cs w v l) (hs : ∀ x, (cs x).length = s) : ∃ a cap, v = .slice a l.length cap ∧ l.length ≤ cap ∧ cap ≤ maxLen ∧ Sees B s cs w a l := by
  rcases h.2 with ⟨hv, h0⟩ | ⟨g, cap, cur, hv, hbg, hg, hnc, hcm, _⟩
  · exact ⟨none, 0, by rw [hv, h0], by omega, by unfold maxLen; omega, .inl h0⟩
  · refine ⟨_, cap, hv, hnc, hcm, .inr ⟨g, rfl, hbg, ?_, fun k x hx o ho => ?_, fun o => ?_⟩⟩
    · exact (h.lt g (by rw [hv]; rfl)).2
    · have hk : k < l.length := by
        rcases Nat.lt_or_ge k l.length with h1 | h1
        · exact h1
        · rw [List.getElem?_eq_none h1] at hx; cases hx
      have h' := h
      unfold Rw at h'
      rw [hv] at h'
      have h1 : k * s + s ≤ l.length * s := by rw [← Nat.succ_mul]; exact Nat.mul_le_mul_right _ hk
      rw [h'.cellAt _ (by omega), flat_get hs l k o x hx ho]
    · have h' := h
      unfold Rw at h'
      rw [hv] at h'
      exact h'.frozenAt o
theorem Rw.seen {n cap : Nat} (h : Rw B t s cs w (.slice a n cap) l) (hs : ∀ x, (cs x).length = s) : Sees B s cs w a l ∧ n = l.length := by
  obtain ⟨a', cap', e, _, _, h1⟩ := h.sees hs
  simp only [Value.slice.injEq] at e
  obtain ⟨rfl, rfl, rfl⟩ := e
  exact ⟨h1, rfl⟩
theorem Sees.below (h : Sees B s cs w a l) (hb : Below w.heap.size w w') : Sees B s cs w' a l := by
  rcases h with h | ⟨g, h1, h2, h3, h4, h5⟩
  · exact .inl h
  · have := hb.size
    exact .inr ⟨g, h1, h2, by omega, fun k x hx o ho => by rw [bG hb h3, h4 k x hx o ho], fun o => by rw [fG hb h3, h5]⟩
/-- Something is appended. -/
theorem app_rw {ops : Array Oper} {rest : List Oper} {o : Oper} {a : Act} {Q : Exit → Act → World → Prop} (w : World) (hgd : o.guard = none) (sl x : Operand) (T : TypeId)
    (ho : o.op = .call { callee := .builtin .append, args := #[sl, x], argTypes := #[T, T] }) (ht : Try.prog.underlying T = some (.slice t))
    (z : Value) (bytes : Nat) (hi : (Try.prog.info? t).map (fun i => (i.zero, i.size, i.bytes)) = some (some z, s, bytes)) (hzs : z.cells.size = s) (hs0 : 0 < s) (hby : bytes ≤ 100) (hs : ∀ x, (cs x).length = s) (ho1 : ∀ x, ∀ u ∈ cs x, u.oneCell' = true)
    (v : Value) (l : List α) (hv : a.eval sl = v) (hown : Rw B t s cs w v l) (h : Nat) (y : α) (hx : a.eval x = .slice (some ⟨h, 0, none⟩) 1 1) (hh : w.heap[h]? = some (.cells (cs y).toArray t (0, 0))) (hl : l.length ≤ 1000000) (hB : B ≤ w.heap.size)
    (K : ∀ v' w', Rw B t s cs w' v' (l ++ [y]) → w.grownBy w' v.ownBlock → (v'.ownBlock = v.ownBlock ∨ v'.ownBlock = some w.heap.size) → wpList Try.prog ops Q rest (a.put o.dst v') w') : wpList Try.prog ops Q (o :: rest) a w := by
  obtain ⟨i, hi1, hz, hsz, hby1⟩ := info_parts hi
  refine wpList_append_own_at w hgd sl x T ho B t i z s bytes ht hi1 hz hsz hby1 hzs hs0 v l.length (l.flatMap cs) hv hown ⟨h, 0, none⟩ 1 1 (cs y) hx (by rw [hs]; omega)
    (fun j u hu => World.news_of_block hh j u (by simpa using hu)) (ho1 y) (by unfold maxLen; omega) ?_ hB ?_
  · have : (l.length + 1) * bytes ≤ 1000001 * 100 := Nat.mul_le_mul (by omega) hby
    omega
  · intro v' w' h1 h2 _ h4
    refine K v' w' ?_ h2 h4
    unfold Rw
    rw [List.length_append, List.flatMap_append]
    simpa using h1
end

/-- A row that has been marked, from k on. -/
def Mk (B : Nat) (t : TypeId) (s : Nat) (w : World) (v : Value) (n : Nat) (k : Int) : Prop := ∃ xs, w.ownsRow B t s v n xs ∧ ∀ j, j < n * s → xs[j]? = some (.int .i64 (k + (j : Int)))
section
variable {B B' : Nat} {t : TypeId} {s : Nat} {w w' : World} {v : Value} {n : Nat} {k : Int}
theorem Mk.lower (h : Mk B t s w v n k) (hb : Below B' w w') (hlt : ∀ g, v.ownBlock = some g → g < B') : Mk B t s w' v n k := by
  obtain ⟨xs, h, hm⟩ := h
  refine ⟨xs, ⟨h.1, ?_⟩, hm⟩
  rcases h.2 with hn | ⟨g, cap, cur, rfl, hbg, hg, rest⟩
  · exact .inl hn
  · exact .inr ⟨g, cap, cur, rfl, hbg, by rw [hb.block g (hlt g rfl)]; exact hg, rest⟩
theorem Mk.lt (h : Mk B t s w v n k) : ∀ g, v.ownBlock = some g → B ≤ g ∧ g < w.heap.size := by
  obtain ⟨xs, h, _⟩ := h
  exact World.ownsRow.lt h
theorem Mk.later (h : Mk B t s w v n k) (hb : Below w.heap.size w w') : Mk B t s w' v n k := h.lower hb fun g hg => (h.lt g hg).2
theorem Mk.apart (h : Mk B t s w v n k) {row : Option Nat} (hg : w.grownBy w' row) (hne : v.ownBlock = none ∨ v.ownBlock ≠ row) : Mk B t s w' v n k := by
  obtain ⟨xs, h, hm⟩ := h
  exact ⟨xs, h.kept hg hne, hm⟩
def MSees (s : Nat) (w : World) (a : Option Addr) (n : Nat) (k : Int) : Prop :=
  n = 0 ∨ ∃ g, a = some ⟨g, 0, none⟩ ∧ g < w.heap.size ∧ ∀ j, j < n * s → w.cell? ⟨g, j, none⟩ = some (.int .i64 (k + (j : Int)))
theorem Mk.sees (h : Mk B t s w v n k) : ∃ a cap, v = .slice a n cap ∧ MSees s w a n k := by
  have hlt := h.lt
  obtain ⟨xs, h, hm⟩ := h
  rcases h.2 with ⟨hv, h0⟩ | ⟨g, cap, cur, hv, hbg, hg, hnc, hcm, _⟩
  · exact ⟨none, 0, by rw [hv, h0], .inl h0⟩
  · refine ⟨_, cap, hv, .inr ⟨g, rfl, (hlt g (by rw [hv]; rfl)).2, fun j hj => ?_⟩⟩
    rw [hv] at h
    rw [h.cellAt j hj, hm j hj]
theorem MSees.below {a : Option Addr} (h : MSees s w a n k) (hb : Below w.heap.size w w') : MSees s w' a n k := by
  rcases h with h | ⟨g, h1, h3, h4⟩
  · exact .inl h
  · have := hb.size
    exact .inr ⟨g, h1, by omega, fun j hj => by rw [bG hb h3, h4 j hj]⟩
end
end Go.Proofs.Ytemnkfigjpphgaa
