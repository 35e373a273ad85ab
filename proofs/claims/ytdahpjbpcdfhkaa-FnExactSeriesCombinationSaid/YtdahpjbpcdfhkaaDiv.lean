/-
  The divisors of a number: both ways make the same list. Printed by mkdiv.py.
-/
import Derived.Test.YtdahpjbpcdfhkaaRwsL
import Derived.Test.YtdahpjbpcdfhkaaNum
namespace Go.Proofs.Ytdahpjbpcdfhkaa
open Go.RowKit
attribute [local simp, local go_sem] past_cell past_frozen past_tape
def lowD (n : Int) : Nat → List Int
  | 0 => []
  | k + 1 => if ((k : Int) + 1) * ((k : Int) + 1) ≤ n ∧ n % ((k : Int) + 1) = 0 then lowD n k ++ [(k : Int) + 1] else lowD n k
def highD (n : Int) : Nat → List Int
  | 0 => []
  | k + 1 => if ((k : Int) + 1) * ((k : Int) + 1) < n ∧ n % ((k : Int) + 1) = 0 then highD n k ++ [n / ((k : Int) + 1)] else highD n k
def divL (n : Int) : List Int := lowD n n.toNat ++ (highD n n.toNat).reverse
theorem lowD_len (n : Int) (k : Nat) : (lowD n k).length ≤ k := by
  induction k with
  | zero => simp [lowD]
  | succ k ih => unfold lowD; split <;> (try simp) <;> omega
theorem highD_len (n : Int) (k : Nat) : (highD n k).length ≤ k := by
  induction k with
  | zero => simp [highD]
  | succ k ih => unfold highD; split <;> (try simp) <;> omega
theorem sq_le_sq {a b : Int} (ha : 0 ≤ a) (h : a ≤ b) : a * a ≤ b * b := Int.mul_le_mul h h ha (Int.le_trans ha h)
theorem lowD_stop {n : Int} {k : Nat} (h : n < ((k : Int) + 1) * ((k : Int) + 1)) (m : Nat) : lowD n (k + m) = lowD n k := by
  induction m with
  | zero => rfl
  | succ m ih =>
    have := sq_le_sq (show (0 : Int) ≤ (k : Int) + 1 by omega) (show (k : Int) + 1 ≤ ((k + m : Nat) : Int) + 1 by omega)
    rw [show k + (m + 1) = (k + m) + 1 by omega, lowD, if_neg (by omega), ih]
theorem highD_stop {n : Int} {k : Nat} (h : n < ((k : Int) + 1) * ((k : Int) + 1)) (m : Nat) : highD n (k + m) = highD n k := by
  induction m with
  | zero => rfl
  | succ m ih =>
    have := sq_le_sq (show (0 : Int) ≤ (k : Int) + 1 by omega) (show (k : Int) + 1 ≤ ((k + m : Nat) : Int) + 1 by omega)
    rw [show k + (m + 1) = (k + m) + 1 by omega, highD, if_neg (by omega), ih]
theorem self_le_sq (k : Nat) : (k : Int) ≤ (k : Int) * k := by
  rcases Nat.eq_zero_or_pos k with rfl | h
  · decide
  · have := Int.mul_le_mul_of_nonneg_left (show (1 : Int) ≤ k by omega) (show (0 : Int) ≤ k by omega)
    omega
theorem divL_eq {n : Int} {k : Nat} (h0 : (k : Int) * k ≤ n) (h : n < ((k : Int) + 1) * ((k : Int) + 1)) : divL n = lowD n k ++ (highD n k).reverse := by
  have := self_le_sq k
  unfold divL
  rw [show n.toNat = k + (n.toNat - k) by omega, lowD_stop h, highD_stop h]
theorem mem_lowD {n x : Int} {k : Nat} (h : x ∈ lowD n k) : 1 ≤ x ∧ x ≤ k ∧ x * x ≤ n ∧ n % x = 0 := by
  induction k with
  | zero => simp [lowD] at h
  | succ k ih =>
    unfold lowD at h
    split at h
    · rename_i hc
      rcases List.mem_append.1 h with h | h
      · have := ih h; exact ⟨this.1, by omega, this.2.2⟩
      · simp at h; subst h; exact ⟨by omega, by omega, hc⟩
    · have := ih h; exact ⟨this.1, by omega, this.2.2⟩
theorem mem_highD {n x : Int} {k : Nat} (hn : 1 ≤ n) (h : x ∈ highD n k) : 1 ≤ x ∧ x ≤ n ∧ n % x = 0 := by
  induction k with
  | zero => simp [highD] at h
  | succ k ih =>
    unfold highD at h
    split at h
    · rename_i hc
      rcases List.mem_append.1 h with h | h
      · exact ih h
      · simp at h
        subst h
        obtain ⟨hc1, hc2⟩ := hc
        have hk : (0 : Int) < (k : Int) + 1 := by omega
        have hd : ((k : Int) + 1) * (n / ((k : Int) + 1)) = n := Int.mul_ediv_cancel' (Int.dvd_of_emod_eq_zero hc2)
        have hp : 0 < n / ((k : Int) + 1) := by
          rcases Int.lt_or_le 0 (n / ((k : Int) + 1)) with h1 | h1
          · exact h1
          · have := Int.mul_nonpos_of_nonneg_of_nonpos (show (0 : Int) ≤ (k : Int) + 1 by omega) h1
            omega
        refine ⟨by omega, Int.ediv_le_self _ (by omega), ?_⟩
        exact Int.emod_eq_zero_of_dvd ⟨(k : Int) + 1, by rw [Int.mul_comm]; exact hd.symm⟩
    · exact ih h
theorem mem_divL {n x : Int} (hn : 1 ≤ n) (h : x ∈ divL n) : 1 ≤ x ∧ x ≤ n ∧ n % x = 0 := by
  rcases List.mem_append.1 h with h | h
  · obtain ⟨h1, h2, h3, h4⟩ := mem_lowD h
    exact ⟨h1, by omega, h4⟩
  · exact mem_highD hn (List.mem_reverse.1 h)
theorem divL_pos {n : Int} (hn : 1 ≤ n) : 0 < (divL n).length := by
  have : lowD n 1 = [1] := by
    have h1 : ((0 : Nat) : Int) + 1 = 1 := rfl
    simp only [lowD, List.nil_append, h1]
    rw [if_pos (by omega)]
  have h2 : ∀ m, 0 < (lowD n (1 + m)).length := by
    intro m
    induction m with
    | zero => rw [this]; simp
    | succ m ih => rw [show 1 + (m + 1) = (1 + m) + 1 by omega, lowD]; split <;> (try simp) <;> omega
  unfold divL
  have := h2 (n.toNat - 1)
  rw [show 1 + (n.toNat - 1) = n.toNat by omega] at this
  simp; omega
/-- Two rows do not lie in one block. -/
def Ap (v1 v2 : Value) : Prop := ∀ g, v1.ownBlock = some g → v2.ownBlock = some g → False
theorem Ap.nel {v1 v2 : Value} (h : Ap v1 v2) : v2.ownBlock = none ∨ v2.ownBlock ≠ v1.ownBlock := by
  cases h2 : v2.ownBlock with
  | none => exact .inl rfl
  | some g => exact .inr fun e => h g e.symm h2
theorem Ap.symm {v1 v2 : Value} (h : Ap v1 v2) : Ap v2 v1 := fun g h1 h2 => h g h2 h1
theorem Ap.app {v1 v2 v' : Value} {n : Nat} (h : Ap v1 v2) (hv : v'.ownBlock = v1.ownBlock ∨ v'.ownBlock = some n) (h2 : ∀ g, v2.ownBlock = some g → g < n) : Ap v' v2 := by
  intro g h3 h4
  rcases hv with hv | hv
  · exact h g (hv ▸ h3) h4
  · rw [hv] at h3
    have := h2 g h4
    simp at h3
    omega
theorem rev_drop {l : List Int} {k : Nat} {x : Int} (h : l[k]? = some x) : (l.drop k).reverse = (l.drop (k + 1)).reverse ++ [x] := by
  obtain ⟨hk, hx⟩ := List.getElem?_eq_some_iff.1 h
  rw [List.drop_eq_getElem_cons hk, List.reverse_cons, hx]
set_option maxRecDepth 100000 in
set_option maxHeartbeats 4000000 in
theorem divisors_any (n : Int) (w : World) (hn : 0 ≤ n) (hn2 : n ≤ 1000000) :
    Calls Try.prog 36 #[.int .i64 n] w fun en w' => ∃ v, en = .returned v ∧ Rw w.heap.size 3 1 c1 w' v (divL n) ∧ Below w.heap.size w w' := by
  go_enter Try.func36, Try.ntmps36
  go_wp2
  go_loopw [3, 4, 5] (fun v1 v2 i wr => ∃ k : Nat, i = .int .i64 ((k : Int) + 1) ∧ (k : Int) * k ≤ n ∧ k ≤ 1000 ∧ Hid (Rw w.heap.size 3 1 c1 wr v1 (lowD n k)) ∧ Hid (Rw w.heap.size 3 1 c1 wr v2 (highD n k)) ∧ Hid (Ap v1 v2) ∧ Hid (Below w.heap.size w wr)) (fun _ _ i _ => (n + 1 - intOf i).toNat)
  case atStart =>
    refine ⟨0, by go_num, by omega, by omega, ?_, ?_, ?_, ?_⟩
    · show Rw _ _ _ _ _ _ _
      exact Rw.later (Rw.empty (Nat.le_refl _)) ((Below.refl _ _).alloc (Nat.le_refl _) _)
    · show Rw _ _ _ _ _ _ _
      exact Rw.empty2 (w := w.alloc _) (by simp) (by simp)
    · show Ap _ _
      intro g h1 h2; simp [Value.ownBlock] at h1 h2; omega
    · show Below _ _ _
      repeat (first | with_reducible exact Below.refl _ _ | with_reducible assumption | ((with_reducible refine blA ?_ ?_); (focus (first | omega | (simp <;> omega)))) | (with_reducible refine blD ?_) | (with_reducible refine blN ?_) | ((with_reducible refine blS ?_ ?_); (focus (first | omega | (simp <;> omega)))) | ((with_reducible refine blT (by assumption) ?_ ?_); (focus (first | omega | (simp <;> omega)))))
  case round =>
    obtain ⟨k, rfl, hkn, hk1, hr1, hr2, hap, hb⟩ := hrel
    have hbz := hb.out.size
    have hself := self_le_sq k
    by_cases hlt : ((k : Int) + 1) * ((k : Int) + 1) ≤ n
    · have hself' : (k : Int) + 1 ≤ ((k : Int) + 1) * ((k : Int) + 1) := self_le_sq (k + 1)
      have hk2 : k + 1 ≤ 1000 := by
        rcases Nat.lt_or_ge 1000 (k + 1) with h | h
        · have := sq_le_sq (show (0 : Int) ≤ 1001 by omega) (show (1001 : Int) ≤ (k : Int) + 1 by omega)
          omega
        · exact h
      by_cases hd : n % ((k : Int) + 1) = 0
      · have HL := Lib.hid (lowD_len n k)
        have HH := Lib.hid (highD_len n k)
        have e1 : Hid (lowD n (k + 1) = lowD n k ++ [(k : Int) + 1]) := by show _ = _; rw [lowD, if_pos ⟨hlt, hd⟩]
        by_cases hq : ((k : Int) + 1) * ((k : Int) + 1) < n
        · have hq' : ¬ ((k : Int) + 1) * ((k : Int) + 1) = n := by omega
          have e2 : Hid (highD n (k + 1) = highD n k ++ [n / ((k : Int) + 1)]) := by show _ = _; rw [highD, if_pos ⟨hq, hd⟩]
          have hlow := HL.out
          have hhigh := HH.out
          go_wp2_with (at_builtin; go_loud (refine app_int (hr1.out.alloc _) (by rfl) _ _ _ (by rfl) (by kernel_rfl) (by rfl) _ ((k : Int) + 1) (by rfl) (heap_alloc_new _ _) (by omega) (by simp; omega) ?_))
          intro v1' w1 hr1' hg1 hat1
          have hz1 := hg1.size
          simp at hz1
          have hr2' : Rw w.heap.size 3 1 c1 w1 _ (highD n k) := ((hr2.out.alloc _).apart hg1 hap.out.nel)
          have hap1 := hap.out.app hat1 (fun g hg => by have := (hr2.out.lt g hg).2; simp; omega)
          have hb1 : Below w.heap.size w w1 := below_of_grown (hb.out.alloc hb.out.size _) hg1 (by have := hb.out.size; simp; omega) (fun g hg => (hr1.out.lt g hg).1)
          have HR1 := Lib.hid hr1'
          have HR2 := Lib.hid hr2'
          have HA := Lib.hid hap1
          have HB := Lib.hid hb1
          clear hr1' hr2' hap1 hb1 hg1 hat1
          go_wp2_with (at_builtin; go_loud (refine app_int (HR2.out.alloc _) (by rfl) _ _ _ (by rfl) (by kernel_rfl) (by rfl) _ (n / ((k : Int) + 1)) (by rfl) (heap_alloc_new _ _) (by omega) (by simp; omega) ?_))
          intro v2' w2 hr2'' hg2 hat2
          have hap2 := (HA.out.symm.app hat2 (fun g hg => by have := (HR1.out.lt g hg).2; simp; omega)).symm
          have hr1'' : Rw w.heap.size 3 1 c1 w2 _ (lowD n k ++ [(k : Int) + 1]) := ((HR1.out.alloc _).apart hg2 HA.out.symm.nel)
          have hb2 : Below w.heap.size w w2 := below_of_grown (HB.out.alloc HB.out.size _) hg2 (by have := HB.out.size; simp; omega) (fun g hg => (HR2.out.lt g hg).1)
          have HR1' := Lib.hid hr1''
          have HR2' := Lib.hid hr2''
          have HA' := Lib.hid hap2
          have HB' := Lib.hid hb2
          clear hr1'' hr2'' hap2 hb2 hg2 hat2
          go_wp2
          go_roundw
          case rel =>
            go_light
            refine ⟨k + 1, by go_num, by rw [show ((k + 1 : Nat) : Int) = (k : Int) + 1 by omega]; exact hlt, hk2, ?_, ?_, HA'.out, HB'.out⟩
            · show Rw _ _ _ _ _ _ _
              rw [e1.out]; exact HR1'.out
            · show Rw _ _ _ _ _ _ _
              rw [e2.out]; exact HR2'.out
          case measure => simp [intOf]; omega
        · have hq' : ((k : Int) + 1) * ((k : Int) + 1) = n := by omega
          have e2 : Hid (highD n (k + 1) = highD n k) := by show _ = _; rw [highD, if_neg (by omega)]
          have HQ := Lib.hid hq'
          have hlow := HL.out
          have hhigh := HH.out
          have hqb : (((k : Int) + 1) * ((k : Int) + 1) == n) = true := by simp [hq']
          have hqc : (((k : Int) + 1) * ((k : Int) + 1) != n) = false := by simp [hq']
          clear hq'
          go_wp2_with (at_builtin; go_loud (refine app_int (hr1.out.alloc _) (by rfl) _ _ _ (by rfl) (by kernel_rfl) (by rfl) _ ((k : Int) + 1) (by rfl) (heap_alloc_new _ _) (by omega) (by simp; omega) ?_))
          intro v1' w1 hr1' hg1 hat1
          have hz1 := hg1.size
          simp at hz1
          have hr2' : Rw w.heap.size 3 1 c1 w1 _ (highD n k) := ((hr2.out.alloc _).apart hg1 hap.out.nel)
          have hap1 := hap.out.app hat1 (fun g hg => by have := (hr2.out.lt g hg).2; simp; omega)
          have hb1 : Below w.heap.size w w1 := below_of_grown (hb.out.alloc hb.out.size _) hg1 (by have := hb.out.size; simp; omega) (fun g hg => (hr1.out.lt g hg).1)
          have HR1 := Lib.hid hr1'
          have HR2 := Lib.hid hr2'
          have HA := Lib.hid hap1
          have HB := Lib.hid hb1
          clear hr1' hr2' hap1 hb1 hg1 hat1
          go_wp2
          go_roundw
          case rel =>
            go_light
            refine ⟨k + 1, by go_num, by rw [show ((k + 1 : Nat) : Int) = (k : Int) + 1 by omega]; exact hlt, hk2, ?_, ?_, HA.out, HB.out⟩
            · show Rw _ _ _ _ _ _ _
              rw [e1.out]; exact HR1.out
            · show Rw _ _ _ _ _ _ _
              rw [e2.out]; exact HR2.out
          case measure => simp [intOf]; omega
      · have e1 : Hid (lowD n (k + 1) = lowD n k) := by show _ = _; rw [lowD, if_neg (by omega)]
        have e2 : Hid (highD n (k + 1) = highD n k) := by show _ = _; rw [highD, if_neg (by omega)]
        go_wp2
        go_roundw
        case rel =>
          go_light
          refine ⟨k + 1, by go_num, by rw [show ((k + 1 : Nat) : Int) = (k : Int) + 1 by omega]; exact hlt, hk2, ?_, ?_, hap.out, hb.out⟩
          · show Rw _ _ _ _ _ _ _
            rw [e1.out]; exact hr1.out
          · show Rw _ _ _ _ _ _ _
            rw [e2.out]; exact hr2.out
        case measure => simp [intOf]; omega
    · have hlt' : n < ((k : Int) + 1) * ((k : Int) + 1) := Int.not_le.1 hlt
      clear hlt
      have hX0 := sq_le_sq (show (0 : Int) ≤ (k : Int) + 1 by omega) (show (k : Int) + 1 ≤ 1001 by omega)
      have hX : ((k : Int) + 1) * ((k : Int) + 1) ≤ 1002001 := by omega
      clear hX0
      have hWr : wrap64 (((k : Int) + 1) * ((k : Int) + 1)) = ((k : Int) + 1) * ((k : Int) + 1) := by unfold wrap64; omega
      have hdec : decide (((k : Int) + 1) * ((k : Int) + 1) ≤ n) = false := by simp; omega
      clear hX
      have HD := Lib.hid (divL_eq hkn (by omega : n < ((k : Int) + 1) * ((k : Int) + 1)))
      have hH := highD_len n k
      have hL := lowD_len n k
      generalize lowD n k = lo at *
      generalize highD n k = hi at *
      obtain ⟨m, HM⟩ : ∃ m, Hid (hi.length = m) := ⟨_, Lib.hid rfl⟩
      have hmk : m ≤ k := by rw [← HM.out]; exact hH
      obtain ⟨a2, cap2, hv2, hnc, hcm, _⟩ := hr2.out.sees c1_len
      rw [HM.out] at hv2
      subst hv2
      clear hnc hcm hH
      go_wp2
      clear hWr hdec
      go_loopw [3, 6] (fun v1 i wz => ∃ j : Nat, j ≤ m ∧ i = .int .i64 ((j : Int) - 1) ∧ Hid (Rw w.heap.size 3 1 c1 wz v1 (lo ++ (hi.drop j).reverse)) ∧ Hid (Rw w.heap.size 3 1 c1 wz (.slice a2 m cap2) hi) ∧ Hid (Ap v1 (.slice a2 m cap2)) ∧ Hid (Below w.heap.size w wz)) (fun _ i _ => (intOf i + 1).toNat)
      case atStart =>
        refine ⟨m, Nat.le_refl _, rfl, ?_, hr2.out, hap.out, hb.out⟩
        show Rw _ _ _ _ _ _ _
        rw [List.drop_of_length_le (by rw [HM.out]; exact Nat.le_refl _)]
        simpa using hr1.out
      case round =>
        obtain ⟨j, hj, rfl, hr1, hr2, hap, hb⟩ := hrel
        have hbz := hb.out.size
        cases j with
        | zero =>
          go_wp2
          go_ret
          refine ⟨_, rfl, ?_, hb.out⟩
          rw [HD.out]
          exact hr1.out
        | succ q =>
          obtain ⟨x, hx⟩ := get_some HM.out hj
          have HX := Lib.hid (rev_drop hx)
          have hlen : (lo ++ (hi.drop (q + 1)).reverse).length ≤ 3000 := by
            have := HM.out
            simp; omega
          have hcx : ∃ g, a2 = some ⟨g, 0, none⟩ ∧ wr.cell? ⟨g, q, none⟩ = some (.int .i64 x) := by
            rcases (hr2.out.seen c1_len).1 with h0 | ⟨g, rfl, _, _, hcell, _⟩
            · have := HM.out; omega
            · exact ⟨g, rfl, by have := hcell q x hx 0 (by omega); simpa [c1] using this⟩
          obtain ⟨g, rfl, hcx⟩ := hcx
          clear hx
          rw [show ((q + 1 : Nat) : Int) - 1 = (q : Int) by omega]
          go_wp2_with (at_builtin; go_loud (refine app_int (hr1.out.alloc _) (by rfl) _ _ _ (by rfl) (by kernel_rfl) (by rfl) _ (x) (by rfl) (heap_alloc_new _ _) (by omega) (by simp; omega) ?_))
          intro v1' w1 hr1' hg1 hat1
          have hr2' : Rw w.heap.size 3 1 c1 w1 _ hi := ((hr2.out.alloc _).apart hg1 hap.out.nel)
          have hap1 := hap.out.app hat1 (fun g hg => by have := (hr2.out.lt g hg).2; simp; omega)
          have hb1 : Below w.heap.size w w1 := below_of_grown (hb.out.alloc hb.out.size _) hg1 (by have := hb.out.size; simp; omega) (fun g hg => (hr1.out.lt g hg).1)
          have HR1 := Lib.hid hr1'
          have HR2 := Lib.hid hr2'
          have HA := Lib.hid hap1
          have HB := Lib.hid hb1
          clear hr1' hr2' hap1 hb1 hg1 hat1
          go_wp2
          go_roundw
          case rel =>
            go_light
            refine ⟨q, by omega, by go_num, ?_, HR2.out, HA.out, HB.out⟩
            show Rw _ _ _ _ _ _ _
            rw [HX.out]
            exact HR1.out
          case measure => simp [intOf]
set_option maxRecDepth 100000 in
set_option maxHeartbeats 4000000 in
theorem nuDivisors_any (n : Int) (w : World) (hn : 0 ≤ n) (hn2 : n ≤ 1000000) :
    Calls Try.prog 33 #[.int .i64 n] w fun en w' => ∃ v, en = .returned v ∧ Rw w.heap.size 3 1 c1 w' v (divL n) ∧ Below w.heap.size w w' := by
  go_enter Try.func33, Try.ntmps33
  go_wp2
  go_loopw [3, 4, 5] (fun v1 v2 i wr => ∃ k : Nat, i = .int .i64 ((k : Int) + 1) ∧ (k : Int) * k ≤ n ∧ k ≤ 1000 ∧ Hid (Rw w.heap.size 3 1 c1 wr v1 (lowD n k)) ∧ Hid (Rw w.heap.size 3 1 c1 wr v2 (highD n k)) ∧ Hid (Ap v1 v2) ∧ Hid (Below w.heap.size w wr)) (fun _ _ i _ => (n + 1 - intOf i).toNat)
  case atStart =>
    refine ⟨0, by go_num, by omega, by omega, ?_, ?_, ?_, ?_⟩
    · show Rw _ _ _ _ _ _ _
      exact Rw.nil _ _ _ _ _
    · show Rw _ _ _ _ _ _ _
      exact Rw.nil _ _ _ _ _
    · show Ap _ _
      intro g h1 h2; simp [Value.ownBlock] at h1
    · show Below _ _ _
      repeat (first | with_reducible exact Below.refl _ _ | with_reducible assumption | ((with_reducible refine blA ?_ ?_); (focus (first | omega | (simp <;> omega)))) | (with_reducible refine blD ?_) | (with_reducible refine blN ?_) | ((with_reducible refine blS ?_ ?_); (focus (first | omega | (simp <;> omega)))) | ((with_reducible refine blT (by assumption) ?_ ?_); (focus (first | omega | (simp <;> omega)))))
  case round =>
    obtain ⟨k, rfl, hkn, hk1, hr1, hr2, hap, hb⟩ := hrel
    have hbz := hb.out.size
    have hself := self_le_sq k
    by_cases hlt : ((k : Int) + 1) * ((k : Int) + 1) ≤ n
    · have hself' : (k : Int) + 1 ≤ ((k : Int) + 1) * ((k : Int) + 1) := self_le_sq (k + 1)
      have hk2 : k + 1 ≤ 1000 := by
        rcases Nat.lt_or_ge 1000 (k + 1) with h | h
        · have := sq_le_sq (show (0 : Int) ≤ 1001 by omega) (show (1001 : Int) ≤ (k : Int) + 1 by omega)
          omega
        · exact h
      by_cases hd : n % ((k : Int) + 1) = 0
      · have HL := Lib.hid (lowD_len n k)
        have HH := Lib.hid (highD_len n k)
        have e1 : Hid (lowD n (k + 1) = lowD n k ++ [(k : Int) + 1]) := by show _ = _; rw [lowD, if_pos ⟨hlt, hd⟩]
        by_cases hq : ((k : Int) + 1) * ((k : Int) + 1) < n
        · have hq' : ¬ ((k : Int) + 1) * ((k : Int) + 1) = n := by omega
          have e2 : Hid (highD n (k + 1) = highD n k ++ [n / ((k : Int) + 1)]) := by show _ = _; rw [highD, if_pos ⟨hq, hd⟩]
          have hlow := HL.out
          have hhigh := HH.out
          go_wp2_with (at_builtin; go_loud (refine app_int (hr1.out.alloc _) (by rfl) _ _ _ (by rfl) (by kernel_rfl) (by rfl) _ ((k : Int) + 1) (by rfl) (heap_alloc_new _ _) (by omega) (by simp; omega) ?_))
          intro v1' w1 hr1' hg1 hat1
          have hz1 := hg1.size
          simp at hz1
          have hr2' : Rw w.heap.size 3 1 c1 w1 _ (highD n k) := ((hr2.out.alloc _).apart hg1 hap.out.nel)
          have hap1 := hap.out.app hat1 (fun g hg => by have := (hr2.out.lt g hg).2; simp; omega)
          have hb1 : Below w.heap.size w w1 := below_of_grown (hb.out.alloc hb.out.size _) hg1 (by have := hb.out.size; simp; omega) (fun g hg => (hr1.out.lt g hg).1)
          have HR1 := Lib.hid hr1'
          have HR2 := Lib.hid hr2'
          have HA := Lib.hid hap1
          have HB := Lib.hid hb1
          clear hr1' hr2' hap1 hb1 hg1 hat1
          go_wp2_with (at_builtin; go_loud (refine app_int (HR2.out.alloc _) (by rfl) _ _ _ (by rfl) (by kernel_rfl) (by rfl) _ (n / ((k : Int) + 1)) (by rfl) (heap_alloc_new _ _) (by omega) (by simp; omega) ?_))
          intro v2' w2 hr2'' hg2 hat2
          have hap2 := (HA.out.symm.app hat2 (fun g hg => by have := (HR1.out.lt g hg).2; simp; omega)).symm
          have hr1'' : Rw w.heap.size 3 1 c1 w2 _ (lowD n k ++ [(k : Int) + 1]) := ((HR1.out.alloc _).apart hg2 HA.out.symm.nel)
          have hb2 : Below w.heap.size w w2 := below_of_grown (HB.out.alloc HB.out.size _) hg2 (by have := HB.out.size; simp; omega) (fun g hg => (HR2.out.lt g hg).1)
          have HR1' := Lib.hid hr1''
          have HR2' := Lib.hid hr2''
          have HA' := Lib.hid hap2
          have HB' := Lib.hid hb2
          clear hr1'' hr2'' hap2 hb2 hg2 hat2
          go_wp2
          go_roundw
          case rel =>
            go_light
            refine ⟨k + 1, by go_num, by rw [show ((k + 1 : Nat) : Int) = (k : Int) + 1 by omega]; exact hlt, hk2, ?_, ?_, HA'.out, HB'.out⟩
            · show Rw _ _ _ _ _ _ _
              rw [e1.out]; exact HR1'.out
            · show Rw _ _ _ _ _ _ _
              rw [e2.out]; exact HR2'.out
          case measure => simp [intOf]; omega
        · have hq' : ((k : Int) + 1) * ((k : Int) + 1) = n := by omega
          have e2 : Hid (highD n (k + 1) = highD n k) := by show _ = _; rw [highD, if_neg (by omega)]
          have HQ := Lib.hid hq'
          have hlow := HL.out
          have hhigh := HH.out
          have hqb : (((k : Int) + 1) * ((k : Int) + 1) == n) = true := by simp [hq']
          have hqc : (((k : Int) + 1) * ((k : Int) + 1) != n) = false := by simp [hq']
          clear hq'
          go_wp2_with (at_builtin; go_loud (refine app_int (hr1.out.alloc _) (by rfl) _ _ _ (by rfl) (by kernel_rfl) (by rfl) _ ((k : Int) + 1) (by rfl) (heap_alloc_new _ _) (by omega) (by simp; omega) ?_))
          intro v1' w1 hr1' hg1 hat1
          have hz1 := hg1.size
          simp at hz1
          have hr2' : Rw w.heap.size 3 1 c1 w1 _ (highD n k) := ((hr2.out.alloc _).apart hg1 hap.out.nel)
          have hap1 := hap.out.app hat1 (fun g hg => by have := (hr2.out.lt g hg).2; simp; omega)
          have hb1 : Below w.heap.size w w1 := below_of_grown (hb.out.alloc hb.out.size _) hg1 (by have := hb.out.size; simp; omega) (fun g hg => (hr1.out.lt g hg).1)
          have HR1 := Lib.hid hr1'
          have HR2 := Lib.hid hr2'
          have HA := Lib.hid hap1
          have HB := Lib.hid hb1
          clear hr1' hr2' hap1 hb1 hg1 hat1
          go_wp2
          go_roundw
          case rel =>
            go_light
            refine ⟨k + 1, by go_num, by rw [show ((k + 1 : Nat) : Int) = (k : Int) + 1 by omega]; exact hlt, hk2, ?_, ?_, HA.out, HB.out⟩
            · show Rw _ _ _ _ _ _ _
              rw [e1.out]; exact HR1.out
            · show Rw _ _ _ _ _ _ _
              rw [e2.out]; exact HR2.out
          case measure => simp [intOf]; omega
      · have e1 : Hid (lowD n (k + 1) = lowD n k) := by show _ = _; rw [lowD, if_neg (by omega)]
        have e2 : Hid (highD n (k + 1) = highD n k) := by show _ = _; rw [highD, if_neg (by omega)]
        go_wp2
        go_roundw
        case rel =>
          go_light
          refine ⟨k + 1, by go_num, by rw [show ((k + 1 : Nat) : Int) = (k : Int) + 1 by omega]; exact hlt, hk2, ?_, ?_, hap.out, hb.out⟩
          · show Rw _ _ _ _ _ _ _
            rw [e1.out]; exact hr1.out
          · show Rw _ _ _ _ _ _ _
            rw [e2.out]; exact hr2.out
        case measure => simp [intOf]; omega
    · have hlt' : n < ((k : Int) + 1) * ((k : Int) + 1) := Int.not_le.1 hlt
      clear hlt
      have hX0 := sq_le_sq (show (0 : Int) ≤ (k : Int) + 1 by omega) (show (k : Int) + 1 ≤ 1001 by omega)
      have hX : ((k : Int) + 1) * ((k : Int) + 1) ≤ 1002001 := by omega
      clear hX0
      have hWr : wrap64 (((k : Int) + 1) * ((k : Int) + 1)) = ((k : Int) + 1) * ((k : Int) + 1) := by unfold wrap64; omega
      have hdec : decide (((k : Int) + 1) * ((k : Int) + 1) ≤ n) = false := by simp; omega
      clear hX
      have HD := Lib.hid (divL_eq hkn (by omega : n < ((k : Int) + 1) * ((k : Int) + 1)))
      have hH := highD_len n k
      have hL := lowD_len n k
      generalize lowD n k = lo at *
      generalize highD n k = hi at *
      obtain ⟨m, HM⟩ : ∃ m, Hid (hi.length = m) := ⟨_, Lib.hid rfl⟩
      have hmk : m ≤ k := by rw [← HM.out]; exact hH
      obtain ⟨a2, cap2, hv2, hnc, hcm, _⟩ := hr2.out.sees c1_len
      rw [HM.out] at hv2
      subst hv2
      clear hnc hcm hH
      go_wp2
      clear hWr hdec
      go_loopw [3, 6] (fun v1 i wz => ∃ j : Nat, j ≤ m ∧ i = .int .i64 ((j : Int) - 1) ∧ Hid (Rw w.heap.size 3 1 c1 wz v1 (lo ++ (hi.drop j).reverse)) ∧ Hid (Rw w.heap.size 3 1 c1 wz (.slice a2 m cap2) hi) ∧ Hid (Ap v1 (.slice a2 m cap2)) ∧ Hid (Below w.heap.size w wz)) (fun _ i _ => (intOf i + 1).toNat)
      case atStart =>
        refine ⟨m, Nat.le_refl _, rfl, ?_, hr2.out, hap.out, hb.out⟩
        show Rw _ _ _ _ _ _ _
        rw [List.drop_of_length_le (by rw [HM.out]; exact Nat.le_refl _)]
        simpa using hr1.out
      case round =>
        obtain ⟨j, hj, rfl, hr1, hr2, hap, hb⟩ := hrel
        have hbz := hb.out.size
        cases j with
        | zero =>
          go_wp2
          go_ret
          refine ⟨_, rfl, ?_, hb.out⟩
          rw [HD.out]
          exact hr1.out
        | succ q =>
          obtain ⟨x, hx⟩ := get_some HM.out hj
          have HX := Lib.hid (rev_drop hx)
          have hlen : (lo ++ (hi.drop (q + 1)).reverse).length ≤ 3000 := by
            have := HM.out
            simp; omega
          have hcx : ∃ g, a2 = some ⟨g, 0, none⟩ ∧ wr.cell? ⟨g, q, none⟩ = some (.int .i64 x) := by
            rcases (hr2.out.seen c1_len).1 with h0 | ⟨g, rfl, _, _, hcell, _⟩
            · have := HM.out; omega
            · exact ⟨g, rfl, by have := hcell q x hx 0 (by omega); simpa [c1] using this⟩
          obtain ⟨g, rfl, hcx⟩ := hcx
          clear hx
          rw [show ((q + 1 : Nat) : Int) - 1 = (q : Int) by omega]
          go_wp2_with (at_builtin; go_loud (refine app_int (hr1.out.alloc _) (by rfl) _ _ _ (by rfl) (by kernel_rfl) (by rfl) _ (x) (by rfl) (heap_alloc_new _ _) (by omega) (by simp; omega) ?_))
          intro v1' w1 hr1' hg1 hat1
          have hr2' : Rw w.heap.size 3 1 c1 w1 _ hi := ((hr2.out.alloc _).apart hg1 hap.out.nel)
          have hap1 := hap.out.app hat1 (fun g hg => by have := (hr2.out.lt g hg).2; simp; omega)
          have hb1 : Below w.heap.size w w1 := below_of_grown (hb.out.alloc hb.out.size _) hg1 (by have := hb.out.size; simp; omega) (fun g hg => (hr1.out.lt g hg).1)
          have HR1 := Lib.hid hr1'
          have HR2 := Lib.hid hr2'
          have HA := Lib.hid hap1
          have HB := Lib.hid hb1
          clear hr1' hr2' hap1 hb1 hg1 hat1
          go_wp2
          go_roundw
          case rel =>
            go_light
            refine ⟨q, by omega, by go_num, ?_, HR2.out, HA.out, HB.out⟩
            show Rw _ _ _ _ _ _ _
            rw [HX.out]
            exact HR1.out
          case measure => simp [intOf]
end Go.Proofs.Ytdahpjbpcdfhkaa
