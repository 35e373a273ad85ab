/-
  A region that draws its order, whose effects may turn one block g of the caller's: quiet operations, effects in one order, and (if there is one) a block of one's own that is made at any time.
-/
import Derived.Test.YtemnkfigjpphgaaRws
import Derived.Test.YtemnkfigjpphgaaDrw
import Derived.Test.YtemnkfigjpphgaaFrame
import Derived.ChangeSlices
namespace Go.Proofs.Ytemnkfigjpphgaa
open Go.RowKit
section
variable {gg : Nat} {P : Program} {md : Region.Mode} {ops : Array Oper} {n : Nat}

theorem cg_cl {a b c : World} (h : a.grownBy b (some gg)) (k : Cl b c) : a.grownBy c (some gg) := gB (past_below k) h
theorem cl_cg {a b c : World} (h : Cl a b) (k : b.grownBy c (some gg)) : a.grownBy c (some gg) := gT k (gB (past_below h) (grown_id _ _))

/-- One value, whatever has been made meanwhile. -/
def CalmG (gg : Nat) (P : Program) (ops : Array Oper) (V : World) (o : Oper) (v : Value) (a : Act) : Prop := ∀ w0, V.grownBy w0 (some gg) → YieldsIn P ops (Cl w0) o v a
theorem CalmG.later {V V' : World} {o : Oper} {v : Value} {a : Act} (h : CalmG gg P ops V o v a) (hv : V.grownBy V' (some gg)) : YieldsIn P ops (Cl V') o v a := h V' hv
theorem CalmG.put_ {V : World} {oi oj : Oper} {v : Value} {a : Act} (hy : CalmG gg P ops V oi v a) (hap : oi.apart ops oj = true) (hsi : ∀ cs b, oi.op ≠ .select cs b) (u : Value) : CalmG gg P ops V oi v (a.put oj.dst u) := by
  obtain ⟨_, _, h3⟩ := Oper.apart_spec hap
  exact fun w0 hw => (hy w0 hw).of_same (execOp_put oi hsi a oj.dst u h3) (wanted_put oi a oj.dst u h3)
theorem CalmG.back {V V' : World} {o : Oper} {v : Value} {a : Act} (h : CalmG gg P ops V o v a) (hv : V.grownBy V' (some gg)) : CalmG gg P ops V' o v a := fun w0 h0 => h w0 (gT h0 hv)

theorem calm_putG {V V1 : World} {j : Nat} {oi oj : Oper} {v : Value} (hj : ops[j]? = some oj) (hap : oi.apart ops oj = true) (hsi : ∀ cs b, oi.op ≠ .select cs b) (hsj : ∀ cs b, oj.op ≠ .select cs b) {K : Act → Prop} {a : Act}
    (hy : CalmG gg P ops V oi v a) (h : qOp P ops (Cl V1) j K (a.put oi.dst v)) : qOp P ops (Cl V1) j (fun a' => CalmG gg P ops V oi v a' ∧ K (a'.put oi.dst v)) a := by
  obtain ⟨h1, h2, _⟩ := Oper.apart_spec hap
  unfold qOp at *
  simp only [hj] at *
  rw [wanted_put oj a oi.dst v h1] at h
  by_cases hw : Region.wanted oj (yielded ops a.tmps) = true
  · rw [if_pos hw] at h ⊢
    obtain ⟨u, hu, hK⟩ := h
    refine ⟨u, fun w hw' => ?_, hy.put_ hap hsi u, by rw [← Act.put_comm a v u h2]; exact hK⟩
    have := hu w hw'
    unfold Oper.quietAt at *
    rwa [execOp_put oj hsj a oi.dst v h1] at this
  · rw [if_neg hw] at h ⊢
    exact ⟨hy.put_ hap hsi undef, by rw [← Act.put_comm a v undef h2]; exact h⟩

/-- The values of a walk that ends in the frame A. -/
def calmToG (gg : Nat) (P : Program) (ops : Array Oper) (V : World) (A : Act) : List Oper → Act → Prop
  | [], a => a = A
  | o :: l, a => ∃ v, CalmG gg P ops V o v a ∧ calmToG gg P ops V A l (a.put o.dst v)

theorem calm_of_walksG {V : World} {A : Act} (l : List Oper) : ∀ a : Act, ownSlots a.tmps.size l = true → (∀ w0, V.grownBy w0 (some gg) → wpQuiet P ops (Cl w0) (fun a' => a' = A) l a) → calmToG gg P ops V A l a := by
  induction l with
  | nil => intro a _ h; exact h V (grown_id _ _)
  | cons o l ih =>
    intro a hd h
    simp only [ownSlots, Bool.and_eq_true] at hd
    obtain ⟨hd1, hd2⟩ := hd
    cases hdst : o.dst with
    | none => rw [hdst] at hd1; cases hd1
    | some d =>
      rw [hdst] at hd1
      simp only [Bool.and_eq_true, decide_eq_true_eq, List.all_eq_true, bne_iff_ne] at hd1
      by_cases hw : Region.wanted o (yielded ops a.tmps) = true
      · have key : ∀ w0, V.grownBy w0 (some gg) → (∀ w, Cl w0 w → o.quietAt P a (Cl w0) w (A.tmps.getD d undef)) ∧ wpQuiet P ops (Cl w0) (fun a' => a' = A) l (a.put o.dst (A.tmps.getD d undef)) := by
          intro w0 h0
          have h1 := h w0 h0
          unfold wpQuiet at h1
          rw [if_pos hw] at h1
          obtain ⟨v, hv, hr⟩ := h1
          have : A.tmps.getD d undef = v := by rw [slot_kept l _ hd1.2 hr, hdst, put_getD_same _ _ _ hd1.1]
          rw [this]
          exact ⟨hv, hr⟩
        exact ⟨_, fun w0 h0 => .inl ⟨hw, (key w0 h0).1⟩, ih _ (by rw [put_size]; exact hd2) fun w0 h0 => (key w0 h0).2⟩
      · refine ⟨undef, fun w0 _ => .inr ⟨by simpa using hw, rfl⟩, ih _ (by rw [put_size]; exact hd2) fun w0 h0 => ?_⟩
        have h1 := h w0 h0
        unfold wpQuiet at h1
        rwa [if_neg hw] at h1

/-- What an operation with an effect owes. -/
def EffG (gg : Nat) (V : World) (a : Act) (K : World → Act → Prop) (ex : Exit) (a' : Act) (w' : World) : Prop := ex = .normal ∧ a'.defers = a.defers ∧ V.grownBy w' (some gg) ∧ K w' a'
theorem effG_lets {V : World} {a : Act} {K : World → Act → Prop} : ¬ LetsOut (EffG gg V a K) := fun ⟨_, _, h, _⟩ => by cases h
/-- An operation with an effect, walked by itself. -/
def effG (gg : Nat) (P : Program) (ops : Array Oper) (V : World) (o : Oper) (a : Act) (K : World → Act → Prop) : Prop :=
  ∀ w, Cl V w → wpList P ops (EffG gg w a K) [o] a w

theorem effG_op {V : World} {i : Nat} {o : Oper} {a : Act} {K : World → Act → Prop} {Q : Exit → Act → World → Prop} {G : Act → World → Prop} (hi : ops[i]? = some o) (h : effG gg P ops V o a K) (hG : ∀ a' w', V.grownBy w' (some gg) → K w' a' → G a' w') (w : World) (hw : Cl V w) : wpOp P ops Q i G a w := by
  have h1 := h w hw
  unfold wpOp
  simp only [hi]
  simp only [wpList] at h1
  split at h1
  · rename_i hwt
    rw [if_pos hwt]
    rcases h1 with h1 | h1
    · left
      exact upon_mono2 (fun a' w' hh => hG a' w' (cl_cg hw hh.2.2.1) hh.2.2.2) (fun x a' w' hh hx => absurd hh.1 hx) _ h1
    · exact absurd h1.2 effG_lets
  · rename_i hwt
    rw [if_neg hwt]
    exact hG _ _ (cl_cg hw h1.2.2.1) h1.2.2.2

theorem effG_conv {V : World} {o : Oper} {a : Act} {K K' : World → Act → Prop} (hK : ∀ w' a' w, Cl V w → w.grownBy w' (some gg) → K w' a' → K' w' a') (h : effG gg P ops V o a K) : effG gg P ops V o a K' := by
  intro w hw
  have := h w hw
  have conv : ∀ ex a' w', EffG gg w a K ex a' w' → EffG gg w a K' ex a' w' := fun ex a' w' hh => ⟨hh.1, hh.2.1, hh.2.2.1, hK w' a' w hw hh.2.2.1 hh.2.2.2⟩
  simp only [wpList] at this ⊢
  split at this
  · rename_i hwt
    rw [if_pos hwt]
    rcases this with h1 | h1
    · exact Or.inl (upon_mono2 (fun a' w' hh => conv _ a' w' hh) (fun x a' w' hh hx => absurd hh.1 hx) _ h1)
    · exact absurd h1.2 effG_lets
  · rename_i hwt
    rw [if_neg hwt]
    exact conv _ _ _ this

/-- Whatever order is taken. -/
def mixG (gg : Nat) (P : Program) (md : Region.Mode) (ops : Array Oper) (q : Nat → Bool) (n : Nat) (L : World → Array Bool → Act → Prop) : Nat → World → Array Bool → Act → Prop
  | 0, V, done, a => L V done a
  | f + 1, V, done, a => Region.ready md ops done ≠ [] ∧ ∀ i ∈ Region.ready md ops done, i < n ∧
      if q i then qOp P ops (Cl V) i (mixG gg P md ops q n L f V (done.setIfInBounds i true)) a
      else ∃ o, ops[i]? = some o ∧ effG gg P ops V o a (fun V' a' => mixG gg P md ops q n L f V' (done.setIfInBounds i true) a')

theorem any_of_mixG {q : Nat → Bool} {L : World → Array Bool → Act → Prop} {g : Nat} {Q : Exit → Act → World → Prop} (hL : ∀ V done a, L V done a → ∀ w, Cl V w → wpAny P md ops Q g done a w) (f : Nat) :
    ∀ (V : World) (done : Array Bool) (a : Act), mixG gg P md ops q n L f V done a → ∀ w, Cl V w → wpAny P md ops Q (f + g) done a w := by
  induction f with
  | zero => intro V done a h w hw; rw [Nat.zero_add]; exact hL V done a h w hw
  | succ f ih =>
    intro V done a h w hw
    rw [show f + 1 + g = (f + g) + 1 by omega]
    refine ⟨fun h0 => absurd h0 h.1, fun i hi => ?_⟩
    have h2 := (h.2 i hi).2
    split at h2
    · exact wpOp_of_qOp hw (fun a' w' hw' h' => ih _ _ a' h' w' hw') h2
    · obtain ⟨o, ho, he⟩ := h2
      exact effG_op ho he (fun a' w' _ hk => ih _ _ _ hk _ (cl_refl _)) w hw

/-- A quiet operation beside one with an effect. -/
theorem effG_put {V : World} {oi o : Oper} {a : Act} {v : Value} {K K' : World → Act → Prop} (hap : oi.apart ops o = true) (hs : ∀ cs b, o.op ≠ .select cs b)
    (hK : ∀ V' u, V.grownBy V' (some gg) → K V' ((a.put o.dst u).put oi.dst v) → K' V' (a.put o.dst u)) (h : effG gg P ops V o (a.put oi.dst v) K) : effG gg P ops V o a K' := by
  obtain ⟨h1, h2, _⟩ := Oper.apart_spec hap
  intro w hw
  have hh := h w hw
  have hd : (a.put oi.dst v).defers = a.defers := by cases oi.dst <;> rfl
  have hdo : ∀ u, (a.put o.dst u).defers = a.defers := fun u => by cases o.dst <;> rfl
  simp only [wpList] at hh ⊢
  rw [wanted_put o a oi.dst v h1] at hh
  split at hh
  · rename_i hwt
    rw [if_pos hwt]
    rcases hh with hh | hh
    · left
      unfold Oper.wp at hh ⊢
      rw [execOp_put o hs a oi.dst v h1] at hh
      generalize (execOp a.eval o).run P w = r at *
      have key : ∀ u w', EffG gg w (a.put oi.dst v) K .normal ((a.put oi.dst v).put o.dst u) w' → EffG gg w a K' .normal (a.put o.dst u) w' := fun u w' hq => by
        refine ⟨rfl, hdo u, hq.2.2.1, hK _ _ (cl_cg hw hq.2.2.1) ?_⟩
        rw [← Act.put_comm a v u h2]
        exact hq.2.2.2
      unfold Oper.upon at hh ⊢
      split at hh
      · exact key _ _ hh
      · exact key _ _ hh
      · have : ∀ (b : Act) u, (b.put o.dst u).defers = b.defers := fun b u => by cases o.dst <;> rfl
        have he := hh.2.1
        rw [this] at he
        simp at he
      · refine hh.mono fun e w'' he => ?_
        split at he
        · exact key _ _ he
        · cases he.1
        · exact absurd he effG_lets
      · exact Rows.mono hh fun u w' hv => key _ _ hv
      · cases hh.1
      · exact hh.elim
    · exact absurd hh.2 effG_lets
  · rename_i hwt
    rw [if_neg hwt]
    refine ⟨rfl, hdo _, hh.2.2.1, hK _ _ (cl_cg hw hh.2.2.1) ?_⟩
    rw [← Act.put_comm a v undef h2]
    exact hh.2.2.2

/-- The other way: a slot that is set ahead does not matter to it. -/
theorem effG_ahead {V : World} {oi o : Oper} {a : Act} {v : Value} {K K' : World → Act → Prop} (hap : oi.apart ops o = true) (hs : ∀ cs b, o.op ≠ .select cs b)
    (hK : ∀ V' u, V.grownBy V' (some gg) → K V' (a.put o.dst u) → K' V' ((a.put o.dst u).put oi.dst v)) (h : effG gg P ops V o a K) : effG gg P ops V o (a.put oi.dst v) K' := by
  obtain ⟨h1, h2, _⟩ := Oper.apart_spec hap
  intro w hw
  have hh := h w hw
  have hd : (a.put oi.dst v).defers = a.defers := by cases oi.dst <;> rfl
  have hdo : ∀ u, ((a.put oi.dst v).put o.dst u).defers = (a.put oi.dst v).defers := fun u => by cases o.dst <;> rfl
  simp only [wpList] at hh ⊢
  rw [wanted_put o a oi.dst v h1]
  split at hh
  · rename_i hwt
    rw [if_pos hwt]
    rcases hh with hh | hh
    · left
      unfold Oper.wp at hh ⊢
      rw [execOp_put o hs a oi.dst v h1]
      generalize (execOp a.eval o).run P w = r at *
      have key : ∀ u w', EffG gg w a K .normal (a.put o.dst u) w' → EffG gg w (a.put oi.dst v) K' .normal ((a.put oi.dst v).put o.dst u) w' := fun u w' hq => by
        refine ⟨rfl, hdo u, hq.2.2.1, ?_⟩
        rw [Act.put_comm a v u h2]
        exact hK _ _ (cl_cg hw hq.2.2.1) hq.2.2.2
      unfold Oper.upon at hh ⊢
      split at hh
      · exact key _ _ hh
      · exact key _ _ hh
      · have : ∀ (b : Act) u, (b.put o.dst u).defers = b.defers := fun b u => by cases o.dst <;> rfl
        have he := hh.2.1
        rw [this] at he
        simp at he
      · refine hh.mono fun e w'' he => ?_
        split at he
        · exact key _ _ he
        · cases he.1
        · exact absurd he effG_lets
      · exact Rows.mono hh fun u w' hv => key _ _ hv
      · cases hh.1
      · exact hh.elim
    · exact absurd hh.2 effG_lets
  · rename_i hwt
    rw [if_neg hwt]
    refine ⟨rfl, hdo _, hh.2.2.1, ?_⟩
    rw [Act.put_comm a v undef h2]
    exact hK _ _ (cl_cg hw hh.2.2.1) hh.2.2.2

theorem mixG_at_once {V0 : World} {q : Nat → Bool} {L : World → Array Bool → Act → Prop} {i : Nat} {oi : Oper} {v : Value} (hi : ops[i]? = some oi) (hin : i < n) (hq : q i = true) (hn : n < ops.size) (hno : Region.noSelect ops = true) (hs : Region.sinkB md ops n = true) (hc : Region.chainB md ops n = true)
    (hend : ∀ V done a, L V done a → ∀ j ∈ Region.ready md ops done, n ≤ j) (f : Nat) : ∀ (V : World) (done : Array Bool) (a : Act), V0.grownBy V (some gg) → HeadInv md ops n done → i ∈ Region.ready md ops done → CalmG gg P ops V0 oi v a →
      (∀ j oj, ops[j]? = some oj → j ≠ i → done.getD j true = false → (∀ e ∈ oj.after, Region.binds md e = true → e.on ≠ i) → oi.apart ops oj = true) →
      mixG gg P md ops q n L f V (done.setIfInBounds i true) (a.put oi.dst v) → mixG gg P md ops q n L (f + 1) V done a := by
  have hsel := Region.noSelect_spec hno
  induction f with
  | zero =>
    intro V done a hV inv hr hy _ H
    refine ⟨List.ne_nil_of_mem hr, fun j hj => ?_⟩
    have hjn : j < n := Nat.lt_of_not_le fun h => tail_waits hs hc hn inv _ i rfl hin (mem_ready.1 hr).1 j h hj
    refine ⟨hjn, ?_⟩
    rcases Decidable.em (j = i) with rfl | hne
    · rw [if_pos hq]; exact (hy.later hV).qOp hi H
    · exact absurd (hend _ _ _ H j (ready_mono hj hne)) (by omega)
  | succ f ih =>
    intro V done a hV inv hr hy hap H
    refine ⟨List.ne_nil_of_mem hr, fun j hj => ?_⟩
    have hui := (mem_ready.1 hr).1
    have hjn : j < n := Nat.lt_of_not_le fun h => tail_waits hs hc hn inv _ i rfl hin hui j h hj
    refine ⟨hjn, ?_⟩
    rcases Decidable.em (j = i) with rfl | hne
    · rw [if_pos hq]; exact (hy.later hV).qOp hi H
    obtain ⟨huj, oj, hoj, hafter⟩ := mem_ready.1 hj
    have hwait : ∀ e ∈ oj.after, Region.binds md e = true → e.on ≠ i := by
      intro e he hb heq
      have := hafter e he hb
      rw [heq, getD_both hui] at this
      cases this
    have hapj := hap j oj hoj hne huj hwait
    have hap' : ∀ k ok, ops[k]? = some ok → k ≠ i → (done.setIfInBounds j true).getD k true = false → (∀ e ∈ ok.after, Region.binds md e = true → e.on ≠ i) → oi.apart ops ok = true := by
      intro k ok hk hki hun hnw
      refine hap k ok hk hki ?_ hnw
      rcases Decidable.em (j = k) with rfl | hjk
      · exact huj
      · rwa [getD_set_ne true hjk] at hun
    have hy2 : ∀ u, CalmG gg P ops V0 oi v (a.put oj.dst u) := fun u => hy.put_ hapj (fun cs b => hsel i oi cs b hi) u
    have H2 := (H.2 j (ready_mono hj hne)).2
    split at H2
    · rename_i hqj
      rw [if_pos hqj]
      have key := calm_putG (V := V) hoj hapj (fun cs b => hsel i oi cs b hi) (fun cs b => hsel j oj cs b hoj) (hy.back hV) H2
      have key2 : qOp P ops (Cl V) j (fun a' => CalmG gg P ops V0 oi v a' ∧ mixG gg P md ops q n L f V ((done.setIfInBounds i true).setIfInBounds j true) (a'.put oi.dst v)) a := by
        unfold qOp at key ⊢
        simp only [hoj] at key ⊢
        split at key
        · rename_i hw
          rw [if_pos hw]
          obtain ⟨u, hu, _, hK⟩ := key
          exact ⟨u, hu, hy2 u, hK⟩
        · rename_i hw
          rw [if_neg hw]
          exact ⟨hy2 undef, key.2⟩
      refine qOp_mono (fun a' h3 => ih V _ a' hV (inv.set hj hjn) (ready_mono hr (Ne.symm hne)) h3.1 hap' ?_) key2
      rw [Array.setIfInBounds_comm _ _ hne]
      exact h3.2
    · rename_i hqj
      rw [if_neg hqj]
      obtain ⟨o', ho', he⟩ := H2
      obtain rfl : o' = oj := Option.some.inj (ho'.symm.trans hoj)
      refine ⟨o', ho', effG_put hapj (fun cs b => hsel j o' cs b hoj) (fun V' u hV' hK => ?_) he⟩
      refine ih V' _ _ (gT hV' hV) (inv.set hj hjn) (ready_mono hr (Ne.symm hne)) (hy2 u) hap' ?_
      rw [Array.setIfInBounds_comm _ _ hne]
      exact hK

/-- The operations with effects, one after the other; a quiet one may stand among them ('true'). -/
def effWG (gg : Nat) (P : Program) (ops : Array Oper) (R : World → Act → Prop) : List (Bool × Oper) → Act → World → Prop
  | [], a, V => R V a
  | (false, o) :: l, a, V => effG gg P ops V o a (fun V' a' => effWG gg P ops R l a' V')
  | (true, o) :: l, a, V => ∃ v, CalmG gg P ops V o v a ∧ effWG gg P ops R l (a.put o.dst v) V

theorem effWG_later {R : World → Act → Prop} (hR : ∀ V V' a, R V a → Cl V V' → R V' a) : ∀ (l : List (Bool × Oper)) (a : Act) (V V' : World), Cl V V' → effWG gg P ops R l a V → effWG gg P ops R l a V'
  | [], a, V, V', hV, h => hR V V' a h hV
  | (false, o) :: l, a, V, V', hV, h => fun w hw => h w (hV.trans hw)
  | (true, o) :: l, a, V, V', hV, h => by
    obtain ⟨v, hv, hr⟩ := h
    exact ⟨v, hv.back (cg_cl (grown_id _ _) hV), effWG_later hR l _ V V' hV hr⟩

/-- A slot that is set ahead, and what it shows stays. -/
theorem effWG_ahead {R R' : World → Act → Prop} {oi : Oper} {u : Value} {Z : World} (hsi : ∀ cs b, oi.op ≠ .select cs b) (hR : ∀ V a, Z.grownBy V (some gg) → R V a → R' V (a.put oi.dst u)) (l : List (Bool × Oper)) :
    ∀ (a : Act) (V : World), Z.grownBy V (some gg) → (∀ x ∈ l, oi.apart ops x.2 = true ∧ x.2.apart ops oi = true ∧ ∀ cs b, x.2.op ≠ .select cs b) → effWG gg P ops R l a V → effWG gg P ops R' l (a.put oi.dst u) V := by
  induction l with
  | nil => intro a V hV _ h; exact hR V a hV h
  | cons x l ih =>
    intro a V hV hl h
    have hx := hl x (List.mem_cons_self)
    have hl' : ∀ y ∈ l, oi.apart ops y.2 = true ∧ y.2.apart ops oi = true ∧ ∀ cs b, y.2.op ≠ .select cs b := fun y hy => hl y (List.mem_cons_of_mem _ hy)
    obtain ⟨fl, o⟩ := x
    cases fl with
    | false =>
      simp only [effWG] at h ⊢
      exact effG_ahead hx.1 hx.2.2 (fun V' u' hV' hK => ih _ V' (gT hV' hV) hl' hK) h
    | true =>
      simp only [effWG] at h ⊢
      obtain ⟨v, hv, hr⟩ := h
      refine ⟨v, hv.put_ hx.2.1 hx.2.2 u, ?_⟩
      rw [Act.put_comm a u v (Oper.apart_spec hx.1).2.1]
      exact ih _ V hV hl' hr

theorem mixG_of_eff {q : Nat → Bool} {g : Nat} {R : World → Act → Prop} (hn : n < ops.size) (hno : Region.noSelect ops = true) (hs : Region.sinkB md ops n = true) (hc : Region.chainB md ops n = true) (es : List (Bool × Nat)) :
    ∀ (l : List (Bool × Oper)) (V : World) (done : Array Bool) (a : Act), (es.map fun k => (ops[k.2]?).map fun o => (k.1, o)) = l.map some → (∀ k ∈ es, q k.2 = k.1) → HeadInv md ops n done → seqE md ops g n es done = true → effWG gg P ops R l a V →
    mixG gg P md ops q n (fun V d a' => Region.seqB md ops g n d = true ∧ R V a') es.length V done a := by
  induction es with
  | nil =>
    intro l V done a hl _ _ hB h
    obtain rfl : l = [] := by cases l with | nil => rfl | cons => simp at hl
    exact ⟨hB, h⟩
  | cons k es ih =>
    intro l V done a hl hq inv hB h
    obtain ⟨o, l, rfl⟩ : ∃ o l', l = o :: l' := by cases l with | nil => simp at hl | cons o l => exact ⟨o, l, rfl⟩
    obtain ⟨fl, k⟩ := k
    simp only [List.map_cons, List.cons.injEq] at hl
    obtain ⟨hl1, hl2⟩ := hl
    obtain ⟨o', ho', he'⟩ : ∃ o', ops[k]? = some o' ∧ o = (fl, o') := by
      cases hk : ops[k]? with
      | none => rw [hk] at hl1; simp at hl1
      | some o' => rw [hk] at hl1; simp at hl1; exact ⟨o', rfl, hl1.symm⟩
    subst he'
    have hq0 : q k = fl := hq (fl, k) (by simp)
    cases fl with
    | false =>
      simp only [seqE, Bool.and_eq_true, decide_eq_true_eq] at hB
      have hrk : k ∈ Region.ready md ops done := by rw [hB.1.1]; simp
      refine ⟨by rw [hB.1.1]; simp, fun i hi => ?_⟩
      rw [hB.1.1] at hi
      obtain rfl : i = k := by simpa using hi
      refine ⟨hB.1.2, ?_⟩
      rw [if_neg (by rw [hq0]; decide)]
      exact ⟨o', ho', effG_conv (fun w' a' w _ _ hh => ih l w' _ a' hl2 (fun k hk => hq k (by simp [hk])) (inv.set hrk hB.1.2) hB.2 hh) h⟩
    | true =>
      simp only [seqE, Bool.and_eq_true, decide_eq_true_eq] at hB
      obtain ⟨v, hy, hrest⟩ := h
      have hr : k ∈ Region.ready md ops done := by simpa using hB.1.1.1
      refine mixG_at_once (L := fun V d a' => Region.seqB md ops g n d = true ∧ R V a') ho' hB.1.1.2 hq0 hn hno hs hc (fun (V : World) d a' (hd : Region.seqB md ops g n d = true ∧ R V a') => seqB_ready hd.1) _ V done a (grown_id _ _) inv hr hy (Region.free_spec ho' hB.1.2) ?_
      exact ih l V _ _ hl2 (fun k hk => hq k (by simp [hk])) (inv.set hr hB.1.1.2) hB.2 hrest

/-- The order of the effects where one operation floats beside them. -/
def seqF (md : Region.Mode) (ops : Array Oper) (g n j0 : Nat) : List (Bool × Nat) → Array Bool → Bool
  | [], done => decide (Region.ready md ops done = [j0]) && Region.seqB md ops g n (done.setIfInBounds j0 true)
  | (false, k) :: es, done => (Region.ready md ops done).all (fun i => i == k || i == j0) && (Region.ready md ops done).contains k && (Region.ready md ops done).contains j0 && decide (k < n) && seqE md ops g n ((false, k) :: es) (done.setIfInBounds j0 true) && seqF md ops g n j0 es (done.setIfInBounds k true)
  | (true, k) :: es, done => (Region.ready md ops done).contains k && decide (k < n) && Region.free md ops done k && seqF md ops g n j0 es (done.setIfInBounds k true)

/-- The block that floats: where it lies in the end. -/
def Afloat (z : Nat) (dst : Option Tmp) (ob : Obj) (R : World → Act → Prop) (W : World) (a' : Act) : Prop := ∃ (b : Nat) (a0 : Act), a' = a0.put dst (.pointer (some ⟨b, 0, none⟩)) ∧ z ≤ b ∧ b < W.heap.size ∧ W.heap[b]? = some ob ∧ R W a0

theorem effG_alloc {V : World} {o : Oper} {a : Act} {K : World → Act → Prop} (ob : Obj) (hg : o.guard = none) (hrun : ∀ w : World, (execOp a.eval o).run P w = .ok (.value (.pointer (some ⟨w.heap.size, 0, none⟩))) (w.alloc ob))
    (hK : ∀ w, Cl V w → K (w.alloc ob) (a.put o.dst (.pointer (some ⟨w.heap.size, 0, none⟩)))) : effG gg P ops V o a K := by
  intro w hw
  simp only [wpList]
  rw [if_pos (by simp [Region.wanted, hg])]
  left
  unfold Oper.wp
  rw [hrun w]
  refine ⟨rfl, ?_, gA (grown_id _ _), hK w hw⟩
  cases o.dst <;> rfl

theorem heap_alloc (w : World) (ob : Obj) : (w.alloc ob).heap[w.heap.size]? = some ob := by
  show (w.heap.push ob)[w.heap.size]? = some ob
  simp

theorem mixG_of_float {q : Nat → Bool} {g j0 z : Nat} {oa : Oper} {ob : Obj} {R : World → Act → Prop} (hz : gg < z) (hR : ∀ V V' a, R V a → Cl V V' → R V' a) (hj : ops[j0]? = some oa) (hjn : j0 < n) (hqj : q j0 = false) (hg : oa.guard = none)
    (hrun : ∀ (a : Act) (w : World), (execOp a.eval oa).run P w = .ok (.value (.pointer (some ⟨w.heap.size, 0, none⟩))) (w.alloc ob))
    (hn : n < ops.size) (hno : Region.noSelect ops = true) (hs : Region.sinkB md ops n = true) (hc : Region.chainB md ops n = true) (es : List (Bool × Nat)) (hap : es.all (fun k => match ops[k.2]? with | some o => oa.apart ops o && o.apart ops oa | none => false) = true) :
    ∀ (l : List (Bool × Oper)) (V : World) (done : Array Bool) (a : Act), z ≤ V.heap.size → (es.map fun k => (ops[k.2]?).map fun o => (k.1, o)) = l.map some → (∀ k ∈ es, q k.2 = k.1) → HeadInv md ops n done → seqF md ops g n j0 es done = true → effWG gg P ops R l a V →
    mixG gg P md ops q n (fun V d a' => Region.seqB md ops g n d = true ∧ Afloat z oa.dst ob R V a') (es.length + 1) V done a := by
  have hsel := Region.noSelect_spec hno
  induction es with
  | nil =>
    intro l V done a hzV hl _ inv hB h
    obtain rfl : l = [] := by cases l with | nil => rfl | cons => simp at hl
    simp only [seqF, Bool.and_eq_true, decide_eq_true_eq] at hB
    refine ⟨by rw [hB.1]; simp, fun i hi => ?_⟩
    rw [hB.1] at hi
    obtain rfl : i = j0 := by simpa using hi
    refine ⟨hjn, ?_⟩
    rw [if_neg (by rw [hqj]; decide)]
    refine ⟨oa, hj, effG_alloc ob hg (hrun a) fun w hw => ⟨hB.2, w.heap.size, a, rfl, ?_, by simp, heap_alloc w ob, hR _ _ _ h (hw.alloc ob)⟩⟩
    have := (past_below hw).size
    omega
  | cons k es ih =>
    intro l V done a hzV hl hq inv hB h
    obtain ⟨o, l, rfl⟩ : ∃ o l', l = o :: l' := by cases l with | nil => simp at hl | cons o l => exact ⟨o, l, rfl⟩
    obtain ⟨fl, k⟩ := k
    have hl0 := hl
    simp only [List.map_cons, List.cons.injEq] at hl
    obtain ⟨hl1, hl2⟩ := hl
    obtain ⟨o', ho', he'⟩ : ∃ o', ops[k]? = some o' ∧ o = (fl, o') := by
      cases hk : ops[k]? with
      | none => rw [hk] at hl1; simp at hl1
      | some o' => rw [hk] at hl1; simp at hl1; exact ⟨o', rfl, hl1.symm⟩
    subst he'
    have hq0 : q k = fl := hq (fl, k) (by simp)
    have hap2 : es.all (fun k => match ops[k.2]? with | some o => oa.apart ops o && o.apart ops oa | none => false) = true := by
      rw [List.all_cons, Bool.and_eq_true] at hap
      exact hap.2
    have ih := ih hap2
    cases fl with
    | false =>
      simp only [seqF, Bool.and_eq_true, decide_eq_true_eq] at hB
      obtain ⟨⟨⟨⟨⟨hall, hck⟩, hcj⟩, hkn⟩, hBE⟩, hBF⟩ := hB
      have hrk : k ∈ Region.ready md ops done := by simpa using hck
      have hrj : j0 ∈ Region.ready md ops done := by simpa using hcj
      refine ⟨List.ne_nil_of_mem hrk, fun i hi => ?_⟩
      have hi2 := List.all_eq_true.1 hall i hi
      simp only [Bool.or_eq_true, beq_iff_eq] at hi2
      by_cases hik : i = k
      · subst hik
        refine ⟨hkn, ?_⟩
        rw [if_neg (by rw [hq0]; decide)]
        exact ⟨o', ho', effG_conv (fun w' a' w hw hg' hh => ih l w' _ a' (by have := (past_below hw).size; have := hg'.size; omega) hl2 (fun k hk => hq k (by simp [hk])) (inv.set hrk hkn) hBF hh) h⟩
      · obtain rfl : i = j0 := by omega
        refine ⟨hjn, ?_⟩
        rw [if_neg (by rw [hqj]; decide)]
        refine ⟨oa, hj, effG_alloc ob hg (hrun a) fun w hw => ?_⟩
        have hzw : z ≤ w.heap.size := by have := (past_below hw).size; omega
        have hxx : ∀ x ∈ ((false, o') :: l), oa.apart ops x.2 = true ∧ x.2.apart ops oa = true ∧ ∀ cs b, x.2.op ≠ .select cs b := by
          intro x hx
          obtain ⟨j, hj1, hj2⟩ : ∃ k1 ∈ ((false, k) :: es), (ops[k1.2]?).map (fun o => (k1.1, o)) = some x := by
            have : some x ∈ ((false, o') :: l).map some := List.mem_map.2 ⟨x, hx, rfl⟩
            rw [← hl0] at this
            obtain ⟨k', hk1, hk2⟩ := List.mem_map.1 this
            exact ⟨k', hk1, hk2⟩
          have h5 := List.all_eq_true.1 hap j hj1
          cases hoj : ops[j.2]? with
          | none => rw [hoj] at hj2; simp at hj2
          | some oo =>
            rw [hoj] at hj2 h5
            simp only [Option.map_some, Option.some.injEq] at hj2
            subst hj2
            simp only [Bool.and_eq_true] at h5
            exact ⟨h5.1, h5.2, fun cs b => hsel j.2 oo cs b hoj⟩
        have hend : ∀ V' a', (w.alloc ob).grownBy V' (some gg) → R V' a' → Afloat z oa.dst ob R V' (a'.put oa.dst (.pointer (some ⟨w.heap.size, 0, none⟩))) := by
          intro V' a' hV' hr
          refine ⟨w.heap.size, a', rfl, hzw, ?_, ?_, hr⟩
          · have := hV'.size
            simp at this
            omega
          · rw [hV'.block w.heap.size (by simp) (fun e => by cases e; omega)]
            exact heap_alloc w ob
        exact mixG_of_eff (R := Afloat z oa.dst ob R) hn hno hs hc ((false, k) :: es) ((false, o') :: l) _ _ _ hl0 hq (inv.set hrj hjn) hBE
          (effWG_ahead (Z := w.alloc ob) (fun cs b => hsel i oa cs b hj) hend _ _ _ (grown_id _ _) hxx (effWG_later hR _ _ _ _ (hw.alloc ob) h))
    | true =>
      simp only [seqF, Bool.and_eq_true, decide_eq_true_eq] at hB
      obtain ⟨v, hy, hrest⟩ := h
      have hr : k ∈ Region.ready md ops done := by simpa using hB.1.1.1
      refine mixG_at_once (L := fun V d a' => Region.seqB md ops g n d = true ∧ Afloat z oa.dst ob R V a') ho' hB.1.1.2 hq0 hn hno hs hc (fun (V : World) d a' (hd : Region.seqB md ops g n d = true ∧ Afloat z oa.dst ob R V a') => seqB_ready hd.1) _ V done a (grown_id _ _) inv hr hy (Region.free_spec ho' hB.1.2) ?_
      exact ih l V _ _ hzV hl2 (fun k hk => hq k (by simp [hk])) (inv.set hr hB.1.1.2) hB.2 hrest

/-- The quiet operations first; then whatever B asks. -/
def seqQG (md : Region.Mode) (ops : Array Oper) (n : Nat) (B : Array Bool → Bool) : List Nat → Array Bool → Bool
  | [], done => B done
  | k :: qs, done => (Region.ready md ops done).contains k && decide (k < n) && Region.free md ops done k && seqQG md ops n B qs (done.setIfInBounds k true)

theorem mixG_of_walk {q : Nat → Bool} {A : Act} {g f : Nat} {V : World} {R : World → Act → Prop} {B : Array Bool → Bool} (hn : n < ops.size) (hno : Region.noSelect ops = true) (hs : Region.sinkB md ops n = true) (hc : Region.chainB md ops n = true) (qs : List Nat)
    (he : ∀ done, HeadInv md ops n done → B done = true → mixG gg P md ops q n (fun V d a' => Region.seqB md ops g n d = true ∧ R V a') f V done A) :
    ∀ (l : List Oper) (done : Array Bool) (a : Act), (qs.map fun k => ops[k]?) = l.map some → (∀ k ∈ qs, q k = true) → HeadInv md ops n done → seqQG md ops n B qs done = true → calmToG gg P ops V A l a →
      mixG gg P md ops q n (fun V d a' => Region.seqB md ops g n d = true ∧ R V a') (qs.length + f) V done a := by
  induction qs with
  | nil =>
    intro l done a hl _ inv hB h
    obtain rfl : l = [] := by cases l with | nil => rfl | cons => simp at hl
    rw [show a = A from h, List.length_nil, Nat.zero_add]
    exact he done inv hB
  | cons k qs ih =>
    intro l done a hl hq inv hB h
    obtain ⟨o, l, rfl⟩ : ∃ o l', l = o :: l' := by cases l with | nil => simp at hl | cons o l => exact ⟨o, l, rfl⟩
    simp only [List.map_cons, List.cons.injEq] at hl
    simp only [seqQG, Bool.and_eq_true, decide_eq_true_eq] at hB
    obtain ⟨v, hy, hrest⟩ := h
    have hr : k ∈ Region.ready md ops done := by simpa using hB.1.1.1
    rw [List.length_cons, show qs.length + 1 + f = (qs.length + f) + 1 by omega]
    refine mixG_at_once (L := fun V d a' => Region.seqB md ops g n d = true ∧ R V a') hl.1 hB.1.1.2 (hq k (by simp)) hn hno hs hc (fun (V : World) d a' (hd : Region.seqB md ops g n d = true ∧ R V a') => seqB_ready hd.1) _ V done a (grown_id _ _) inv hr hy (Region.free_spec hl.1 hB.1.2) ?_
    exact ih l _ _ hl.2 (fun k hk => hq k (by simp [hk])) (inv.set hr hB.1.1.2) hB.2 hrest
end

def mixBG (ops : Array Oper) (n : Nat) (qs : List Nat) (es : List (Bool × Nat)) : Bool :=
  Region.noSelect ops && decide (n < ops.size) && Region.sinkB .any ops n && Region.chainB .any ops n && decide (qs.length + es.length = n) && es.all (fun k => (qs.contains k.2 || es.contains (true, k.2)) == k.1) && qs.all (fun k => decide (k < ops.size)) && es.all (fun k => decide (k.2 < ops.size)) && seqQG .any ops n (seqE .any ops (ops.size - n) n es) qs (Array.replicate ops.size false)
/-- Quiet operations, effects in one order, a forced tail. -/
theorem region_mixG {P : Program} {id : Nat} {Q : Exit → Act → World → Prop} {a : Act} {w : World} {l : List Oper} (gg n : Nat) (qs : List Nat) (es : List (Bool × Nat)) (hm : P.follows .mixedOrders = true) (hB : mixBG l.toArray n qs es = true)
    (hown : ownSlots a.tmps.size (qs.filterMap fun k => l[k]?) = true)
    (h : ∃ A : Act, (∀ w0, w.grownBy w0 (some gg) → wpQuiet P l.toArray (fun w' => ∃ x, w' = past w0 x) (fun a' => a' = A) (qs.filterMap fun k => l[k]?) a) ∧
      ∀ W : World, Below w.heap.size w W → W.heap.size = w.heap.size → effWG gg P l.toArray (fun V a' => ∀ w', Cl V w' → wpList P l.toArray Q (l.drop n) a' w') (es.filterMap fun k => (l[k.2]?).map fun o => (k.1, o)) A W) : (Code.region id l.toArray true).wp P Q a w := by
  simp only [mixBG, Bool.and_eq_true, decide_eq_true_eq] at hB
  obtain ⟨⟨⟨⟨⟨⟨⟨⟨hno, hn⟩, hs⟩, hc⟩, hlen⟩, hdis⟩, hqa⟩, hea⟩, hseq⟩ := hB
  obtain ⟨A, h1, h2⟩ := h
  have inv : HeadInv .any l.toArray n (Array.replicate l.toArray.size false) := by
    refine ⟨by simp, fun j oj _ hl => ?_, fun t _ ht => ?_⟩
    · rw [getD_replicate_false] at hl; cases hl
    · exact getD_in (by simpa using ht) (getD_replicate_false _ _)
  have H := mixG_of_walk (gg := gg) (P := P) (md := .any) (V := w.drew) (q := fun i => qs.contains i || es.contains (true, i)) (A := A) (g := l.toArray.size - n) (R := fun V a' => ∀ w', Cl V w' → wpList P l.toArray Q (l.drop n) a' w') hn hno hs hc qs
    (fun done hi hb => mixG_of_eff hn hno hs hc es _ w.drew done A (map_pick2 es (by simpa using hea)) (fun k hk => by have := List.all_eq_true.1 hdis k hk; simpa only [beq_iff_eq] using this) hi hb (h2 _ (Below.refl _ _).drew rfl))
    (qs.filterMap fun k => l[k]?) _ a (map_pick qs (by simpa using hqa)) (fun k hk => by simp [hk]) inv hseq
    (calm_of_walksG _ a hown fun w0 h0 => h1 w0 (gT h0 (grown_of ((Below.refl _ _).drew) _)))
  refine wp_region_any hm ?_
  have e2 : (l.drop n).length = l.toArray.size - n := by simp
  have R := any_of_mixG (Q := Q) (g := l.toArray.size - n) (fun V d a' hd w' hw' => by
    have := wpAny_of_seq (md := .any) (Q' := Q) (l.drop n) n d a' w' (fun j => by simp [List.getElem?_drop]) (by rw [e2]; exact hd.1) (hd.2 w' hw')
    rwa [e2] at this) _ _ _ _ H w.drew (cl_refl _)
  rw [hlen, show n + (l.toArray.size - n) = l.toArray.size by omega] at R
  exact R

def mixBF (ops : Array Oper) (n j0 : Nat) (qs : List Nat) (es : List (Bool × Nat)) : Bool :=
  Region.noSelect ops && decide (n < ops.size) && Region.sinkB .any ops n && Region.chainB .any ops n && decide (qs.length + (es.length + 1) = n) && es.all (fun k => (qs.contains k.2 || es.contains (true, k.2)) == k.1) && qs.all (fun k => decide (k < ops.size)) && es.all (fun k => decide (k.2 < ops.size)) && decide (j0 < n) && !(qs.contains j0 || es.contains (true, j0)) &&
  (match ops[j0]? with | some oa => es.all (fun k => match ops[k.2]? with | some o => oa.apart ops o && o.apart ops oa | none => false) | none => false) && seqQG .any ops n (seqF .any ops (ops.size - n) n j0 es) qs (Array.replicate ops.size false)
/-- Quiet operations, effects in one order and a block that is made at any time, a forced tail. -/
theorem region_mixF {P : Program} {id : Nat} {Q : Exit → Act → World → Prop} {a : Act} {w : World} {l : List Oper} (gg n j0 : Nat) (qs : List Nat) (es : List (Bool × Nat)) (oa : Oper) (ob : Obj) (hm : P.follows .mixedOrders = true) (hB : mixBF l.toArray n j0 qs es = true) (hlt : gg < w.heap.size)
    (hj : l[j0]? = some oa) (hg : oa.guard = none) (hrun : ∀ (a : Act) (w : World), (execOp a.eval oa).run P w = .ok (.value (.pointer (some ⟨w.heap.size, 0, none⟩))) (w.alloc ob))
    (hown : ownSlots a.tmps.size (qs.filterMap fun k => l[k]?) = true)
    (h : ∃ A : Act, (∀ w0, w.grownBy w0 (some gg) → wpQuiet P l.toArray (fun w' => ∃ x, w' = past w0 x) (fun a' => a' = A) (qs.filterMap fun k => l[k]?) a) ∧
      ∀ W : World, Below w.heap.size w W → W.heap.size = w.heap.size → effWG gg P l.toArray (fun V a' => ∀ w' b, Cl V w' → w.heap.size ≤ b → b < w'.heap.size → w'.heap[b]? = some ob → wpList P l.toArray Q (l.drop n) (a'.put oa.dst (.pointer (some ⟨b, 0, none⟩))) w') (es.filterMap fun k => (l[k.2]?).map fun o => (k.1, o)) A W) : (Code.region id l.toArray true).wp P Q a w := by
  simp only [mixBF, Bool.and_eq_true, decide_eq_true_eq] at hB
  obtain ⟨⟨⟨⟨⟨⟨⟨⟨⟨⟨⟨hno, hn⟩, hs⟩, hc⟩, hlen⟩, hdis⟩, hqa⟩, hea⟩, hjn⟩, hqj⟩, hap⟩, hseq⟩ := hB
  obtain ⟨A, h1, h2⟩ := h
  have hj' : l.toArray[j0]? = some oa := by simpa using hj
  rw [hj'] at hap
  simp only at hap
  have inv : HeadInv .any l.toArray n (Array.replicate l.toArray.size false) := by
    refine ⟨by simp, fun j oj _ hl => ?_, fun t _ ht => ?_⟩
    · rw [getD_replicate_false] at hl; cases hl
    · exact getD_in (by simpa using ht) (getD_replicate_false _ _)
  let R : World → Act → Prop := fun V a' => ∀ w' b, Cl V w' → w.heap.size ≤ b → b < w'.heap.size → w'.heap[b]? = some ob → wpList P l.toArray Q (l.drop n) (a'.put oa.dst (.pointer (some ⟨b, 0, none⟩))) w'
  have hR : ∀ V V' a, R V a → Cl V V' → R V' a := fun V V' a h0 hV w' b hw' => h0 w' b (hV.trans hw')
  have H := mixG_of_walk (gg := gg) (P := P) (md := .any) (V := w.drew) (q := fun i => qs.contains i || es.contains (true, i)) (A := A) (g := l.toArray.size - n) (R := Afloat w.heap.size oa.dst ob R) hn hno hs hc qs
    (fun done hi hb => mixG_of_float hlt hR hj' hjn (by simpa using hqj) hg hrun hn hno hs hc es hap _ w.drew done A (Nat.le_refl _) (map_pick2 es (by simpa using hea)) (fun k hk => by have := List.all_eq_true.1 hdis k hk; simpa only [beq_iff_eq] using this) hi hb (h2 _ (Below.refl _ _).drew rfl))
    (qs.filterMap fun k => l[k]?) _ a (map_pick qs (by simpa using hqa)) (fun k hk => by simp [hk]) inv hseq
    (calm_of_walksG _ a hown fun w0 h0 => h1 w0 (gT h0 (grown_of ((Below.refl _ _).drew) _)))
  refine wp_region_any hm ?_
  have e2 : (l.drop n).length = l.toArray.size - n := by simp
  have R2 := any_of_mixG (Q := Q) (g := l.toArray.size - n) (fun V d a' hd w' hw' => by
    obtain ⟨hd1, b, a0, rfl, hb1, hb2, hb3, hb4⟩ := hd
    have hb := past_below hw'
    have := wpAny_of_seq (md := .any) (Q' := Q) (l.drop n) n d _ w' (fun j => by simp [List.getElem?_drop]) (by rw [e2]; exact hd1) (hb4 w' b hw' hb1 (Nat.lt_of_lt_of_le hb2 hb.size) (by rw [hb.block b hb2]; exact hb3))
    rwa [e2] at this) _ _ _ _ H w.drew (cl_refl _)
  rw [hlen, show n + (l.toArray.size - n) = l.toArray.size by omega] at R2
  exact R2
theorem effQuietG {gg : Nat} {P : Program} {ops : Array Oper} {V : World} {R : World → Act → Prop} {o : Oper} {l : List (Bool × Oper)} {a : Act} (ho : ownSlots a.tmps.size [o] = true) (h : ∃ A : Act, (∀ w0, V.grownBy w0 (some gg) → wpQuiet P ops (fun w' => ∃ x, w' = past w0 x) (fun a' => a' = A) [o] a) ∧ effWG gg P ops R l A V) : effWG gg P ops R ((true, o) :: l) a V := by
  obtain ⟨A, hA, hr⟩ := h
  obtain ⟨v, hy, hput⟩ := calm_of_walksG (V := V) (A := A) [o] a ho hA
  refine ⟨v, hy, ?_⟩
  rw [show a.put o.dst v = A from hput]
  exact hr
/-- One step of the effects: what the walk leaves. -/
theorem effG_of {gg : Nat} {P : Program} {ops : Array Oper} {V : World} {o : Oper} {a : Act} {K : World → Act → Prop} (h : ∀ w, Below V.heap.size V w → wpList P ops (EffG gg w a K) [o] a w) : effG gg P ops V o a K := fun w hw => h w (past_below hw)
theorem effR_of {gg : Nat} {V : World} {a a' : Act} {K : World → Act → Prop} {w' : World} (hd : a'.defers = a.defers) (hc : V.grownBy w' (some gg)) (hk : K w' a') : EffG gg V a K .normal a' w' := ⟨rfl, hd, hc, hk⟩
theorem cells_at {w : World} {b : Nat} {zs : Array Value} {T : TypeId} (h : w.heap[b]? = some (.cells zs T)) : (∀ o, w.cell? ⟨b, o, none⟩ = zs[o]?) ∧ (∀ o, w.frozen? ⟨b, o, none⟩ = false) := by
  have e : ∀ o, w.cell? ⟨b, o, none⟩ = zs[o]? := fun o => by simp [World.cell?, h]
  refine ⟨e, fun o => ?_⟩
  simp [World.frozen?, h]
theorem set3 {w : World} {b : Nat} {T : TypeId} {x0 x1 x2 : Value} (x y z : Value) (h : w.heap[b]? = some (.cells #[x0, x1, x2] T)) :
    ∃ w4, ((w.setCell ⟨b, 0, none⟩ x).setCell ⟨b, 1, none⟩ y).setCell ⟨b, 2, none⟩ z = w4 ∧ w4.heap[b]? = some (.cells #[x, y, z] T) ∧ w4.heap.size = w.heap.size ∧ w.grownBy w4 (some b) := by
  refine ⟨_, rfl, ?_, by simp, gT (grown_set _ _ _ _) (gT (grown_set _ _ _ _) (grown_set _ _ _ _))⟩
  simp [World.setCell, Array.getElem?_modify, h]
/-- The other blocks behind a store into block b. -/
theorem fcell {b : Nat} {w1 w2 : World} (h : w1.grownBy w2 (some b)) : (∀ c o, c < w1.heap.size → ¬ c = b → w2.cell? ⟨c, o, none⟩ = w1.cell? ⟨c, o, none⟩) ∧ (∀ c o, c < w1.heap.size → ¬ c = b → w2.frozen? ⟨c, o, none⟩ = w1.frozen? ⟨c, o, none⟩) :=
  ⟨fun c o h1 h2 => block_cell (h.block c h1 (fun e => by cases e; exact h2 rfl)), fun c o h1 h2 => block_frozen (h.block c h1 (fun e => by cases e; exact h2 rfl))⟩
theorem gO {a b c : World} {row : Option Nat} {k : Nat} (hk : a.heap.size ≤ k) (h : b.grownBy c (some k)) (h0 : a.grownBy b row) : a.grownBy c row :=
  ⟨h.os.trans h0.os, h.tape.trans h0.tape, h.output.trans h0.output, Nat.le_trans h0.size h.size, fun j hj hne => by rw [h.block j (Nat.lt_of_lt_of_le hj h0.size) (fun e => by cases e; omega)]; exact h0.block j hj hne⟩
end Go.Proofs.Ytemnkfigjpphgaa

/-
  A slice of bytes as a law's argument.
-/
namespace Go.Proofs.Ytemnkfigjpphgaa
open Go.RowKit Go.ChangeShapes Go.WideShapes Go.ChangeAt
theorem bytes_arg {H : Type} {enc : TypeId × Value → H} {w : World} {base : Nat} {spare : Nat → Bool} {held : Bool} {fuel : Nat} {a : Option Addr} {len cap : Nat} {x : DataW H × List MemPlace}
    (h : DataW.trod enc Try.prog w base spare held fuel 22 (Value.slice a len cap).cells.toList = some x) :
    len ≤ cap ∧ cap ≤ maxLen ∧ CodeOk w.heap.size w a len := by
  rcases open_ints Try.underlying22 Try.underlying5 (by kernel_rfl) h with ⟨hcs, _⟩ | ⟨ad, l, c, zs, hcs, _, hl, hm, hz, _, hcell, hwf⟩
  · simp [Value.cells] at hcs
    obtain ⟨rfl, rfl, rfl⟩ := hcs
    exact ⟨Nat.le_refl _, by unfold maxLen; omega, .inl rfl⟩
  · simp [Value.cells] at hcs
    obtain ⟨rfl, rfl, rfl⟩ := hcs
    have hlz : len ≤ zs.length := by rw [hz]; split <;> omega
    refine ⟨hl, hm, ?_⟩
    rcases Nat.eq_zero_or_pos len with h0 | h0
    · exact .inl h0
    · have hc0 := hcell 0 (by omega)
      have hb := World.block_lt_of_cell? w _ hc0
      obtain ⟨b, o, sp⟩ := ad
      have hsp : sp = none := by
        cases sp with
        | none => rfl
        | some k =>
          simp only [Addr.add, if_true] at hc0
          unfold World.cell? at hc0
          simp only [Option.isSome_some, if_true] at hc0
          split at hc0 <;> cases hc0
      subst hsp
      refine .inr ⟨b, o, rfl, by simpa [Addr.add] using hb, by simpa [Addr.add] using hb, fun i hi => ?_⟩
      have hci := hcell i (by omega)
      have hadd : (⟨b, o, none⟩ : Addr).add i = ⟨b, o + i, none⟩ := by
        unfold Addr.add
        split
        · next h => rw [h]; rfl
        · rfl
      rw [hadd] at hci
      refine ⟨_, hci, ?_⟩
      have hmem : zs.getD i 0 ∈ zs := by
        rw [List.getD_eq_getElem?_getD, List.getElem?_eq_getElem (show i < zs.length by omega)]
        exact List.getElem_mem _
      have hw := hwf _ hmem
      generalize zs.getD i 0 = z at *
      have hw2 : IntKind.u8.min ≤ z ∧ z ≤ IntKind.u8.max := by simpa [Lit.wf] using hw
      have e1 : IntKind.u8.min = 0 := by decide
      have e2 : IntKind.u8.max = 255 := by decide
      rw [e1, e2] at hw2
      exact hw2
def bigB (n k : Nat) : Bool := decide (1048576 < (n : Int)) || decide (1048576 - (n : Int) < (k : Int))
theorem big_any (a a' : Option Addr) (n c k c' : Nat) (w : World) (hn : n ≤ 9223372036854775807) (hk : k ≤ 9223372036854775807) : Calls Try.prog 6 #[.slice a n c, .slice a' k c'] w fun en w' => en = .returned (.bool (bigB n k)) ∧ Below w.heap.size w w' := by
  by_cases h : 1048576 < (n : Int)
  · have hb : bigB n k = true := by simp [bigB]; omega
    rw [hb]
    have h' : decide (1048576 < (n : Int)) = true := decide_eq_true h
    go_enter Try.func6, Try.ntmps6
    go_wp2
    go_ret
    refine ⟨rfl, ?_⟩
    repeat (first | with_reducible exact Below.refl _ _ | with_reducible assumption | ((with_reducible refine blA ?_ ?_); (focus (first | omega | (simp <;> omega)))) | (with_reducible refine blD ?_) | (with_reducible refine blN ?_) | ((with_reducible refine blS ?_ ?_); (focus (first | omega | (simp <;> omega)))) | ((with_reducible refine blT (by assumption) ?_ ?_); (focus (first | omega | (simp <;> omega)))))
  · have hb : bigB n k = decide (1048576 - (n : Int) < (k : Int)) := by simp [bigB]; omega
    rw [hb]
    have h' : decide (1048576 < (n : Int)) = false := decide_eq_false h
    have hw : wrap64 (1048576 - (n : Int)) = 1048576 - n := by unfold wrap64; omega
    go_enter Try.func6, Try.ntmps6
    go_wp2
    go_ret
    refine ⟨rfl, ?_⟩
    repeat (first | with_reducible exact Below.refl _ _ | with_reducible assumption | ((with_reducible refine blA ?_ ?_); (focus (first | omega | (simp <;> omega)))) | (with_reducible refine blD ?_) | (with_reducible refine blN ?_) | ((with_reducible refine blS ?_ ?_); (focus (first | omega | (simp <;> omega)))) | ((with_reducible refine blT (by assumption) ?_ ?_); (focus (first | omega | (simp <;> omega)))))
end Go.Proofs.Ytemnkfigjpphgaa
