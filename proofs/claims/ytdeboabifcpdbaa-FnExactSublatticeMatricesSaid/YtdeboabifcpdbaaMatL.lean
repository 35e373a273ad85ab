/-
  Primes, both ways; the matrices of a prime index. Printed by mkmat.py.
-/
import Derived.Test.YtdeboabifcpdbaaPrime
namespace Go.Proofs.Ytdeboabifcpdbaa
open Go.RowKit
attribute [local simp, local go_sem] past_cell past_frozen past_tape
def matF (p : Int) (k : Nat) : List (Int × Int × Int × Int) := (List.range k).map fun k : Nat => (1, 0, (k : Int), p)
theorem matF_next (p : Int) (k : Nat) : matF p (k + 1) = matF p k ++ [(1, 0, (k : Int), p)] := by simp [matF, List.range_succ]
theorem matF_len (p : Int) (k : Nat) : (matF p k).length = k := by simp [matF]
def matL (p : Int) : List (Int × Int × Int × Int) := matF p p.toNat ++ [(p, 0, 0, 1)]
def ixB (p : Int) : Bool := decide (p ≤ 43) && primeB p
def matR (p : Int) : List (Int × Int × Int × Int) := if ixB p then matL p else []
theorem matR_len (p : Int) : (matR p).length ≤ 1100000 := by
  unfold matR
  split
  · rename_i h
    simp [ixB] at h
    simp [matL, matF_len]
    omega
  · simp
set_option maxRecDepth 100000 in
set_option maxHeartbeats 4000000 in
theorem indexMatrices_any (p : Int) (w : World) (hp : 1 ≤ p) (hp2 : p ≤ 43) :
    Calls Try.prog 76 #[.int .i64 p] w fun en w' => ∃ v, en = .returned v ∧ Rw w.heap.size 82 4 c4 w' v (matL p) ∧ Below w.heap.size w w' := by
  go_enter Try.func76, Try.ntmps76
  go_wp2
  go_loopw [3, 4] (fun v i wr => ∃ k : Nat, (k : Int) ≤ p ∧ i = .int .i64 (k : Int) ∧ Hid (Rw w.heap.size 82 4 c4 wr v (matF p k)) ∧ Hid (Below w.heap.size w wr)) (fun _ i _ => (p - intOf i).toNat)
  case atStart =>
    refine ⟨0, by omega, rfl, ?_, ?_⟩
    · show Rw _ _ _ _ _ _ _
      exact Rw.empty (Nat.le_refl _)
    · show Below _ _ _
      repeat (first | with_reducible exact Below.refl _ _ | with_reducible assumption | ((with_reducible refine blA ?_ ?_); (focus (first | omega | (simp <;> omega)))) | (with_reducible refine blD ?_) | (with_reducible refine blN ?_) | ((with_reducible refine blS ?_ ?_); (focus (first | omega | (simp <;> omega)))) | ((with_reducible refine blT (by assumption) ?_ ?_); (focus (first | omega | (simp <;> omega)))))
  case round =>
    obtain ⟨k, hk, rfl, hr, hb⟩ := hrel
    have hbz := hb.out.size
    have HL := Lib.hid (matF_len p k)
    by_cases hlt : (k : Int) < p
    · go_wp2_with (at_builtin; go_loud (refine app_matrix (hr.out.alloc _) (by rfl) _ _ _ (by rfl) (by kernel_rfl) (by rfl) _ (1, 0, (k : Int), p) (by rfl) (heap_alloc_new _ _) (by have := HL.out; omega) (by simp; omega) ?_))
      intro v1' w1 hr1' hg1 hat1
      have hb1 : Below w.heap.size w w1 := below_of_grown (hb.out.alloc hb.out.size _) hg1 (by have := hb.out.size; simp; omega) (fun g hg => (hr.out.lt g hg).1)
      have HR1 := Lib.hid hr1'
      have HB := Lib.hid hb1
      clear hr1' hb1 hg1 hat1
      go_wp2
      go_roundw
      case rel =>
        go_light
        refine ⟨k + 1, by omega, by go_num, ?_, HB.out⟩
        show Rw _ _ _ _ _ _ _
        rw [matF_next]
        exact HR1.out
      case measure => simp [intOf]; omega
    · have hk' : p.toNat = k := by omega
      have HP : Hid (matL p = matF p k ++ [(p, 0, 0, 1)]) := by show _ = _; rw [matL, hk']
      clear hk'
      go_wp2_with (at_builtin; go_loud (refine app_matrix (hr.out.alloc _) (by rfl) _ _ _ (by rfl) (by kernel_rfl) (by rfl) _ (p, 0, 0, 1) (by rfl) (heap_alloc_new _ _) (by have := HL.out; omega) (by simp; omega) ?_))
      intro v1' w1 hr1' hg1 hat1
      have hb1 : Below w.heap.size w w1 := below_of_grown (hb.out.alloc hb.out.size _) hg1 (by have := hb.out.size; simp; omega) (fun g hg => (hr.out.lt g hg).1)
      have HR1 := Lib.hid hr1'
      have HB := Lib.hid hb1
      clear hr1' hb1 hg1 hat1
      go_wp2
      go_ret
      refine ⟨_, rfl, ?_, HB.out⟩
      rw [HP.out]
      exact HR1.out
set_option maxRecDepth 100000 in
set_option maxHeartbeats 4000000 in
theorem hkMatrices_any (p : Int) (w : World) (hp : 1 ≤ p) (hp2 : p ≤ 43) :
    Calls Try.prog 74 #[.int .i64 p] w fun en w' => ∃ v, en = .returned v ∧ Rw w.heap.size 82 4 c4 w' v (matL p) ∧ Below w.heap.size w w' := by
  go_enter Try.func74, Try.ntmps74
  go_wp2
  go_loopw [3, 4] (fun v i wr => ∃ k : Nat, (k : Int) ≤ p ∧ i = .int .i64 (k : Int) ∧ Hid (Rw w.heap.size 82 4 c4 wr v (matF p k)) ∧ Hid (Below w.heap.size w wr)) (fun _ i _ => (p - intOf i).toNat)
  case atStart =>
    refine ⟨0, by omega, rfl, ?_, ?_⟩
    · show Rw _ _ _ _ _ _ _
      exact Rw.nil _ _ _ _ _
    · show Below _ _ _
      repeat (first | with_reducible exact Below.refl _ _ | with_reducible assumption | ((with_reducible refine blA ?_ ?_); (focus (first | omega | (simp <;> omega)))) | (with_reducible refine blD ?_) | (with_reducible refine blN ?_) | ((with_reducible refine blS ?_ ?_); (focus (first | omega | (simp <;> omega)))) | ((with_reducible refine blT (by assumption) ?_ ?_); (focus (first | omega | (simp <;> omega)))))
  case round =>
    obtain ⟨k, hk, rfl, hr, hb⟩ := hrel
    have hbz := hb.out.size
    have HL := Lib.hid (matF_len p k)
    by_cases hlt : (k : Int) < p
    · go_wp2_with (at_builtin; go_loud (refine app_matrix (hr.out.alloc _) (by rfl) _ _ _ (by rfl) (by kernel_rfl) (by rfl) _ (1, 0, (k : Int), p) (by rfl) (heap_alloc_new _ _) (by have := HL.out; omega) (by simp; omega) ?_))
      intro v1' w1 hr1' hg1 hat1
      have hb1 : Below w.heap.size w w1 := below_of_grown (hb.out.alloc hb.out.size _) hg1 (by have := hb.out.size; simp; omega) (fun g hg => (hr.out.lt g hg).1)
      have HR1 := Lib.hid hr1'
      have HB := Lib.hid hb1
      clear hr1' hb1 hg1 hat1
      go_wp2
      go_roundw
      case rel =>
        go_light
        refine ⟨k + 1, by omega, by go_num, ?_, HB.out⟩
        show Rw _ _ _ _ _ _ _
        rw [matF_next]
        exact HR1.out
      case measure => simp [intOf]; omega
    · have hk' : p.toNat = k := by omega
      have HP : Hid (matL p = matF p k ++ [(p, 0, 0, 1)]) := by show _ = _; rw [matL, hk']
      clear hk'
      go_wp2_with (at_builtin; go_loud (refine app_matrix (hr.out.alloc _) (by rfl) _ _ _ (by rfl) (by kernel_rfl) (by rfl) _ (p, 0, 0, 1) (by rfl) (heap_alloc_new _ _) (by have := HL.out; omega) (by simp; omega) ?_))
      intro v1' w1 hr1' hg1 hat1
      have hb1 : Below w.heap.size w w1 := below_of_grown (hb.out.alloc hb.out.size _) hg1 (by have := hb.out.size; simp; omega) (fun g hg => (hr.out.lt g hg).1)
      have HR1 := Lib.hid hr1'
      have HB := Lib.hid hb1
      clear hr1' hb1 hg1 hat1
      go_wp2
      go_ret
      refine ⟨_, rfl, ?_, HB.out⟩
      rw [HP.out]
      exact HR1.out
theorem isIndex_any (p : Int) (w : World) : Calls Try.prog 75 #[.int .i64 p] w fun en w' => en = .returned (.bool (ixB p)) ∧ w = w' := by
  by_cases h : p ≤ 43
  · have HG : Hid (ixB p = primeB p) := by show _ = _; rw [ixB, decide_eq_true h, Bool.true_and]
    rw [HG.out]
    go_enter Try.func75, Try.ntmps75
    go_wp2_with (go_at_call 95; refine (isPrime_any _ _ (by omega)).mono ?_; rintro e w' ⟨rfl, rfl⟩)
    go_ret
    exact ⟨rfl, rfl⟩
  · have HG : Hid (ixB p = false) := by show _ = _; rw [ixB, decide_eq_false h, Bool.false_and]
    rw [HG.out]
    go_enter Try.func75, Try.ntmps75
    go_wp2
    go_ret
    exact ⟨rfl, rfl⟩
theorem hkPrime_any (p : Int) (w : World) : Calls Try.prog 73 #[.int .i64 p] w fun en w' => en = .returned (.bool (ixB p)) ∧ w = w' := by
  by_cases h : 2 ≤ p ∧ p ≤ 43
  · have HG : Hid (ixB p = primeB p) := by show _ = _; rw [ixB, decide_eq_true h.2, Bool.true_and]
    have hin : inB p 2 43 = true := by unfold inB; exact decide_eq_true h
    rw [HG.out]
    have h2 := h.2
    clear h
    go_enter Try.func73, Try.ntmps73
    go_wp2_with (first | (go_at_call 70; refine (l1In_any _ _ _ _).mono ?_; rintro e w' ⟨rfl, rfl⟩) | (go_at_call 94; refine (nuPrime_any _ _ (by omega)).mono ?_; rintro e w' ⟨rfl, rfl⟩))
    go_ret
    exact ⟨rfl, rfl⟩
  · have HG : Hid (ixB p = false) := by
      show _ = _
      unfold ixB
      rcases (show p < 2 ∨ 43 < p by omega) with h1 | h1
      · rw [primeB_lt h1, Bool.and_false]
      · rw [decide_eq_false (by omega), Bool.false_and]
    have hin : inB p 2 43 = false := by unfold inB; exact decide_eq_false h
    rw [HG.out]
    clear h
    go_enter Try.func73, Try.ntmps73
    go_wp2_with (go_at_call 70; refine (l1In_any _ _ _ _).mono ?_; rintro e w' ⟨rfl, rfl⟩)
    go_ret
    exact ⟨rfl, rfl⟩
theorem implSubMat_any (p : Int) (w : World) :
    Calls Try.prog 40 #[.int .i64 p] w fun en w' => ∃ v, en = .returned (.tuple #[v, .bool (ixB p)]) ∧ Rw w.heap.size 82 4 c4 w' v (matR p) ∧ Below w.heap.size w w' := by
  cases c : ixB p with
  | true =>
    have h1 : p ≤ 43 := by simp [ixB] at c; exact c.1
    have h2 : 2 ≤ p := by simp [ixB] at c; exact primeB_ge c.2
    have HR : Hid (matR p = matL p) := by show _ = _; rw [matR, if_pos c]
    rw [HR.out]
    go_enter Try.func40, Try.ntmps40
    go_wp2_with (first | (go_at_call 75; refine (isIndex_any _ _).mono ?_; rintro e w' ⟨rfl, rfl⟩) | (go_at_call 76; refine (indexMatrices_any p _ (by omega) h1).mono ?_; rintro e w' ⟨v, rfl, hr, hB⟩))
    go_ret2
    exact ⟨_, rfl, hr, hB⟩
  | false =>
    have HR : Hid (matR p = []) := by show _ = _; rw [matR, if_neg (by rw [c]; decide)]
    rw [HR.out]
    go_enter Try.func40, Try.ntmps40
    go_wp2_with (go_at_call 75; refine (isIndex_any _ _).mono ?_; rintro e w' ⟨rfl, rfl⟩)
    go_ret2
    exact ⟨_, rfl, Rw.empty (Nat.le_refl _), (Below.refl _ _).alloc (Nat.le_refl _) _⟩
theorem specSubMat_any (p : Int) (w : World) :
    Calls Try.prog 39 #[.int .i64 p] w fun en w' => ∃ v, en = .returned (.tuple #[v, .bool (ixB p)]) ∧ Rw w.heap.size 82 4 c4 w' v (matR p) ∧ Below w.heap.size w w' := by
  cases c : ixB p with
  | true =>
    have h1 : p ≤ 43 := by simp [ixB] at c; exact c.1
    have h2 : 2 ≤ p := by simp [ixB] at c; exact primeB_ge c.2
    have HR : Hid (matR p = matL p) := by show _ = _; rw [matR, if_pos c]
    rw [HR.out]
    go_enter Try.func39, Try.ntmps39
    go_wp2_with (first | (go_at_call 73; refine (hkPrime_any _ _).mono ?_; rintro e w' ⟨rfl, rfl⟩) | (go_at_call 74; refine (hkMatrices_any p _ (by omega) h1).mono ?_; rintro e w' ⟨v, rfl, hr, hB⟩))
    go_ret2
    exact ⟨_, rfl, hr, hB⟩
  | false =>
    have HR : Hid (matR p = []) := by show _ = _; rw [matR, if_neg (by rw [c]; decide)]
    rw [HR.out]
    go_enter Try.func39, Try.ntmps39
    go_wp2_with (go_at_call 73; refine (hkPrime_any _ _).mono ?_; rintro e w' ⟨rfl, rfl⟩)
    go_ret2
    exact ⟨_, rfl, Rw.nil _ _ _ _ _, Below.refl _ _⟩
set_option maxRecDepth 100000 in
set_option maxHeartbeats 4000000 in
theorem law_sublatticeMatrices (p : Int) (w : World) (_ : I64 p) :
    Calls Try.prog 11 #[.int .i64 p] w fun en w' => en = .returned (.bool true) ∧ Below w.heap.size w w' := by
  have hlen : (matR p).length ≤ 1100000 := matR_len p
  obtain ⟨n', hn'⟩ : ∃ n', (matR p).length = n' := ⟨_, rfl⟩
  rw [hn'] at hlen
  have HN := Lib.hid hn'
  clear hn'
  go_enter Try.func11, Try.ntmps11
  go_wp2_with fail
  refine (specSubMat_any p _).mono ?_
  rintro e1 w1 ⟨v0, rfl, hr0, hB1⟩
  have hz1 := hB1.size
  obtain ⟨a0, k0, hv0, hk0, _, hs0⟩ := hr0.sees c4_len
  rw [HN.out] at hv0 hk0
  subst hv0
  clear hk0
  have R0 := Lib.hid hr0
  have S0 := Lib.hid hs0
  have B1 := Lib.hid hB1
  clear hr0 hs0 hB1
  go_wp2_with fail
  refine (implSubMat_any p _).mono ?_
  rintro e2 w2 ⟨v1, rfl, hr1, hB2⟩
  have hz2 := hB2.size
  obtain ⟨a1, k1, hv1, hk1, _, hs1⟩ := hr1.sees c4_len
  rw [HN.out] at hv1 hk1
  subst hv1
  clear hk1
  have R1 := Lib.hid hr1
  have S1 := Lib.hid hs1
  have B2 := Lib.hid hB2
  clear hr1 hs1 hB2
  go_wp2_with fail
  refine (eqMatrixS_same _ _ _ _ _ _ _ _ _ HN.out S1.out (S0.out.below B2.out) hlen).mono ?_
  rintro e3 w3 ⟨rfl, hB3⟩
  have hz3 := hB3.size
  have B3 := Lib.hid hB3
  clear hB3
  go_wp2_with fail
  refine (markMatrixS_any w1.heap.size n' _ _ 1 _ HN.out (R1.out.later B3.out) hlen (by omega) (by omega)).mono ?_
  rintro e4 w4 ⟨rfl, hM, hg4⟩
  have hz4 := hg4.size
  have hap : (Value.slice a0 n' k0).ownBlock = none ∨ (Value.slice a0 n' k0).ownBlock ≠ (Value.slice a1 n' k1).ownBlock := by
    cases h0 : (Value.slice a0 n' k0).ownBlock with
    | none => exact .inl rfl
    | some g =>
      right
      intro h1
      have q1 := (R0.out.lt g h0).2
      have q2 := (R1.out.lt g h1.symm).1
      omega
  have hr04 : Rw w.heap.size 82 4 c4 w4 (.slice a0 n' k0) (matR p) := ((R0.out.later B2.out).later B3.out).apart hg4 hap
  have hB4 : Below w.heap.size w w4 := below_of_grown (B1.out.trans ((B2.out.mono hz1).trans (B3.out.mono (by omega)))) hg4 (by omega) (fun g hg => by have := (R1.out.lt g hg).1; omega)
  obtain ⟨am, km, hem, hms⟩ := hM.sees
  simp only [Value.slice.injEq] at hem
  obtain ⟨rfl, -, rfl⟩ := hem
  have R04 := Lib.hid hr04
  have B4 := Lib.hid hB4
  have M4 := Lib.hid hM
  have N4 := Lib.hid hms
  clear hr04 hB4 hM hms hg4 hap
  go_wp2_with fail
  refine (heldMatrixS_any n' _ _ 1 _ N4.out hlen (by omega) (by omega)).mono ?_
  rintro e5 w5 ⟨rfl, hB5⟩
  have hz5 := hB5.size
  have B5 := Lib.hid hB5
  clear hB5
  go_wp2_with fail
  refine (implSubMat_any p _).mono ?_
  rintro e6 w6 ⟨v2, rfl, hr2, hB6⟩
  have hz6 := hB6.size
  obtain ⟨a2, k2, hv2, hk2, _, hs2⟩ := hr2.sees c4_len
  rw [HN.out] at hv2 hk2
  subst hv2
  clear hk2
  have R2 := Lib.hid hr2
  have S2 := Lib.hid hs2
  have B6 := Lib.hid hB6
  clear hr2 hs2 hB6
  go_wp2_with fail
  refine (eqMatrixS_same _ _ _ _ _ _ _ _ _ HN.out S2.out (((R04.out.seen c4_len).1.below B5.out).below B6.out) hlen).mono ?_
  rintro e7 w7 ⟨rfl, hB7⟩
  have hz7 := hB7.size
  have B7 := Lib.hid hB7
  clear hB7
  go_wp2_with fail
  refine (heldMatrixS_any n' _ _ 1 _ (((N4.out.below B5.out).below B6.out).below B7.out) hlen (by omega) (by omega)).mono ?_
  rintro e8 w8 ⟨rfl, hB8⟩
  have hz8 := hB8.size
  have B8 := Lib.hid hB8
  clear hB8
  go_wp2
  go_ret
  refine ⟨rfl, ?_⟩
  exact B4.out.trans ((B5.out.mono (by omega)).trans ((B6.out.mono (by omega)).trans ((B7.out.mono (by omega)).trans (B8.out.mono (by omega)))))
end Go.Proofs.Ytdeboabifcpdbaa
