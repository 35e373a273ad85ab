/-
  OrdersAbove: both ways. Printed by mkord.py.
-/
import Derived.Test.YtdahpjbpcdfhkaaFund
namespace Go.Proofs.Ytdahpjbpcdfhkaa
open Go.RowKit
attribute [local simp, local go_sem] past_cell past_frozen past_tape
def ordM (d : Int) (l : List Int) : List Int := l.map fun m => d.tdiv (m * m)
def ordL (d : Int) : List Int := ordM d (divL (fdK d))
def ordR (d : Int) : List Int := if negB d then ordL d else []
theorem divL_le {n : Int} (h2 : n ≤ 1000) : (divL n).length ≤ 2000 := by
  have h1 := lowD_len n n.toNat
  have h2 := highD_len n n.toNat
  unfold divL
  simp
  omega
theorem mem_divL0 {n x : Int} (hn : 0 ≤ n) (h : x ∈ divL n) : 1 ≤ x ∧ x ≤ n := by
  rcases Int.lt_or_le 0 n with h1 | h1
  · have := mem_divL (by omega) h; omega
  · obtain rfl : n = 0 := by omega
    simp [divL, lowD, highD] at h
theorem ordR_len {d : Int} (hd : fdK d ≤ 1000) : (ordR d).length ≤ 1100000 := by
  unfold ordR
  split
  · have := divL_le hd
    simp [ordL, ordM]
    omega
  · simp
set_option maxRecDepth 100000 in
set_option maxHeartbeats 4000000 in
theorem implOrd_yes (d : Int) (w : World) (hd : I64 d) (hn : negB d = true) :
    Calls Try.prog 12 #[.int .i64 d] w fun en w' => ∃ v, en = .returned (.tuple #[v, .bool true]) ∧ Rw w.heap.size 3 1 c1 w' v (ordL d) ∧ Below w.heap.size w w' := by
  obtain ⟨n1, n2, _⟩ := negB_true hn
  obtain ⟨k1, k2⟩ := fdK_bd (d := d) (by omega) ⟨by omega, by omega⟩
  have hDL := divL_le k2
  go_enter Try.func12, Try.ntmps12
  go_wp2_with (first | (go_at_call 34; refine (isNegativeDisc_any _ _ hd).mono ?_; rintro e w' ⟨rfl, rfl⟩) | (go_at_call 35; refine (fundamental_any d _ (by omega) ⟨by omega, by omega⟩).mono ?_; rintro e w' ⟨rfl, rfl, _⟩) | (go_at_call 36; fail))
  refine (divisors_any _ _ k1 (by omega)).mono ?_
  rintro e1 w1 ⟨vd, rfl, hrd, hB1⟩
  have HO : Hid (ordL d = ordM d (divL (fdK d))) := Lib.hid rfl
  generalize fdK d = K at *
  obtain ⟨m, hm⟩ : ∃ m, (divL K).length = m := ⟨_, rfl⟩
  rw [hm] at hDL
  have HM := Lib.hid hm
  clear hm
  have hz1 := hB1.size
  (try simp at hz1)
  obtain ⟨ad, kd, hvd, hkd, _, _⟩ := hrd.sees c1_len
  rw [HM.out] at hvd hkd
  subst hvd
  clear hkd
  have RD := Lib.hid hrd
  have B1 := Lib.hid hB1
  clear hrd hB1
  go_wp2
  go_loopw [6, 22] (fun v i wr => ∃ k : Nat, k ≤ m ∧ i = .int .i64 (k : Int) ∧ Hid (Rw w.heap.size 3 1 c1 wr v (ordM d ((divL K).take k))) ∧ Hid (Rw (w.alloc (.cells #[] 3)).heap.size 3 1 c1 wr (.slice ad m kd) (divL K)) ∧ Hid (Ap v (.slice ad m kd)) ∧ Hid (Below w.heap.size w wr)) (fun _ i _ => m - (intOf i).toNat)
  case atStart =>
    refine ⟨0, by omega, rfl, ?_, RD.out, ?_, ?_⟩
    · show Rw _ _ _ _ _ _ _
      exact (Rw.empty (Nat.le_refl _)).later B1.out
    · show Ap _ _
      intro g h1 h2; have := (RD.out.lt g h2).1; simp [Value.ownBlock] at h1; simp at this; omega
    · show Below _ _ _
      have h := B1.out
      repeat (first | with_reducible exact Below.refl _ _ | with_reducible assumption | ((with_reducible refine blA ?_ ?_); (focus (first | omega | (simp <;> omega)))) | (with_reducible refine blD ?_) | (with_reducible refine blN ?_) | ((with_reducible refine blS ?_ ?_); (focus (first | omega | (simp <;> omega)))) | ((with_reducible refine blT (by assumption) ?_ ?_); (focus (first | omega | (simp <;> omega)))))
  case round =>
    obtain ⟨k, hk, rfl, hr, hrd, hap, hb⟩ := hrel
    have hbz := hb.out.size
    by_cases hkm : k < m
    · obtain ⟨x, hx⟩ := get_some HM.out hkm
      obtain ⟨x1, x2⟩ := mem_divL0 k1 (List.mem_of_getElem? hx)
      have HX : Hid (ordM d ((divL K).take (k + 1)) = ordM d ((divL K).take k) ++ [d.tdiv (x * x)]) := by
        show _ = _
        rw [List.take_add_one, hx]
        simp [ordM]
      have hx2 := sq_le_sq (show (0 : Int) ≤ x by omega) (show x ≤ 1000 by omega)
      have hx3 : x * x ≤ 1000000 := by omega
      have hx4 := sq_le_sq (show (0 : Int) ≤ 1 by omega) x1
      have hx5 : 1 ≤ x * x := by omega
      clear hx2 hx4
      have hlen : (ordM d ((divL K).take k)).length ≤ 1000000 := by
        have := HM.out
        simp [ordM]; omega
      have hcx : ∃ g, ad = some ⟨g, 0, none⟩ ∧ wr.cell? ⟨g, k, none⟩ = some (.int .i64 x) := by
        rcases (hrd.out.seen c1_len).1 with h0 | ⟨g, rfl, _, _, hcell, _⟩
        · have := HM.out; omega
        · exact ⟨g, rfl, by have := hcell k x hx 0 (by omega); simpa [c1] using this⟩
      obtain ⟨g, rfl, hcx⟩ := hcx
      clear hx
      go_wp2_with (at_builtin; go_loud (refine app_int (hr.out.alloc _) (by rfl) _ _ _ (by rfl) (by kernel_rfl) (by rfl) _ (d.tdiv (x * x)) (by rfl) (heap_alloc_new _ _) hlen (by simp; omega) ?_))
      intro v1' w1 hr1' hg1 hat1
      have hrd' : Rw (w.alloc (.cells #[] 3)).heap.size 3 1 c1 w1 _ (divL K) := ((hrd.out.alloc _).apart hg1 hap.out.nel)
      have hap1 := hap.out.app hat1 (fun g hg => by have := (hrd.out.lt g hg).2; simp; omega)
      have hb1 : Below w.heap.size w w1 := below_of_grown (hb.out.alloc hb.out.size _) hg1 (by have := hb.out.size; simp; omega) (fun g hg => (hr.out.lt g hg).1)
      have HR1 := Lib.hid hr1'
      have HRD := Lib.hid hrd'
      have HA := Lib.hid hap1
      have HB := Lib.hid hb1
      clear hr1' hrd' hap1 hb1 hg1 hat1 hlen
      go_wp2
      go_roundw
      case rel =>
        go_light
        refine ⟨k + 1, by omega, by go_num, ?_, HRD.out, HA.out, HB.out⟩
        show Rw _ _ _ _ _ _ _
        rw [HX.out]
        exact HR1.out
      case measure => simp [intOf]; omega
    · have hk' : k = m := by omega
      subst hk'
      go_wp2
      go_ret2
      refine ⟨_, rfl, ?_, hb.out⟩
      have := hr.out
      rw [List.take_of_length_le (by rw [HM.out]; exact Nat.le_refl _)] at this
      rw [HO.out]
      exact this
theorem implOrd_any (d : Int) (w : World) (hd : I64 d) :
    Calls Try.prog 12 #[.int .i64 d] w fun en w' => ∃ v, en = .returned (.tuple #[v, .bool (negB d)]) ∧ Rw w.heap.size 3 1 c1 w' v (ordR d) ∧ Below w.heap.size w w' := by
  cases c : negB d with
  | true =>
    rw [ordR, if_pos c]
    exact implOrd_yes d w hd c
  | false =>
    rw [ordR, if_neg (by rw [c]; decide)]
    go_enter Try.func12, Try.ntmps12
    go_wp2_with (go_at_call 34; refine (isNegativeDisc_any _ _ hd).mono ?_; rintro e w' ⟨rfl, rfl⟩)
    go_ret2
    exact ⟨_, rfl, Rw.empty (Nat.le_refl _), (Below.refl _ _).alloc (Nat.le_refl _) _⟩
set_option maxRecDepth 100000 in
set_option maxHeartbeats 4000000 in
theorem specOrd_yes (d : Int) (w : World) (hd : I64 d) (hn : negB d = true) :
    Calls Try.prog 11 #[.int .i64 d] w fun en w' => ∃ v, en = .returned (.tuple #[v, .bool true]) ∧ Rw w.heap.size 3 1 c1 w' v (ordL d) ∧ Below w.heap.size w w' := by
  obtain ⟨n1, n2, _⟩ := negB_true hn
  obtain ⟨k1, k2⟩ := fdK_bd (d := d) (by omega) ⟨by omega, by omega⟩
  have hDL := divL_le k2
  go_enter Try.func11, Try.ntmps11
  go_wp2_with (first | (go_at_call 31; refine (reDisc_any _ _ hd).mono ?_; rintro e w' ⟨rfl, rfl⟩) | (go_at_call 32; refine (diSplit_any d _ (by omega) ⟨by omega, by omega⟩).mono ?_; rintro e w' ⟨rfl, rfl, _⟩) | (go_at_call 33; fail))
  refine (nuDivisors_any _ _ k1 (by omega)).mono ?_
  rintro e1 w1 ⟨vd, rfl, hrd, hB1⟩
  have HO : Hid (ordL d = ordM d (divL (fdK d))) := Lib.hid rfl
  generalize fdK d = K at *
  obtain ⟨m, hm⟩ : ∃ m, (divL K).length = m := ⟨_, rfl⟩
  rw [hm] at hDL
  have HM := Lib.hid hm
  clear hm
  have hz1 := hB1.size
  (try simp at hz1)
  obtain ⟨ad, kd, hvd, hkd, _, _⟩ := hrd.sees c1_len
  rw [HM.out] at hvd hkd
  subst hvd
  clear hkd
  have RD := Lib.hid hrd
  have B1 := Lib.hid hB1
  clear hrd hB1
  go_wp2
  go_loopw [6, 20] (fun v i wr => ∃ k : Nat, k ≤ m ∧ i = .int .i64 (k : Int) ∧ Hid (Rw w.heap.size 3 1 c1 wr v (ordM d ((divL K).take k))) ∧ Hid (Rw w.heap.size 3 1 c1 wr (.slice ad m kd) (divL K)) ∧ Hid (Ap v (.slice ad m kd)) ∧ Hid (Below w.heap.size w wr)) (fun _ i _ => m - (intOf i).toNat)
  case atStart =>
    refine ⟨0, by omega, rfl, ?_, RD.out, ?_, ?_⟩
    · show Rw _ _ _ _ _ _ _
      exact Rw.nil _ _ _ _ _
    · show Ap _ _
      intro g h1 h2; simp [Value.ownBlock] at h1
    · show Below _ _ _
      have h := B1.out
      repeat (first | with_reducible exact Below.refl _ _ | with_reducible assumption | ((with_reducible refine blA ?_ ?_); (focus (first | omega | (simp <;> omega)))) | (with_reducible refine blD ?_) | (with_reducible refine blN ?_) | ((with_reducible refine blS ?_ ?_); (focus (first | omega | (simp <;> omega)))) | ((with_reducible refine blT (by assumption) ?_ ?_); (focus (first | omega | (simp <;> omega)))))
  case round =>
    obtain ⟨k, hk, rfl, hr, hrd, hap, hb⟩ := hrel
    have hbz := hb.out.size
    by_cases hkm : k < m
    · obtain ⟨x, hx⟩ := get_some HM.out hkm
      obtain ⟨x1, x2⟩ := mem_divL0 k1 (List.mem_of_getElem? hx)
      have HX : Hid (ordM d ((divL K).take (k + 1)) = ordM d ((divL K).take k) ++ [d.tdiv (x * x)]) := by
        show _ = _
        rw [List.take_add_one, hx]
        simp [ordM]
      have hx2 := sq_le_sq (show (0 : Int) ≤ x by omega) (show x ≤ 1000 by omega)
      have hx3 : x * x ≤ 1000000 := by omega
      have hx4 := sq_le_sq (show (0 : Int) ≤ 1 by omega) x1
      have hx5 : 1 ≤ x * x := by omega
      clear hx2 hx4
      have hlen : (ordM d ((divL K).take k)).length ≤ 1000000 := by
        have := HM.out
        simp [ordM]; omega
      have hcx : ∃ g, ad = some ⟨g, 0, none⟩ ∧ wr.cell? ⟨g, k, none⟩ = some (.int .i64 x) := by
        rcases (hrd.out.seen c1_len).1 with h0 | ⟨g, rfl, _, _, hcell, _⟩
        · have := HM.out; omega
        · exact ⟨g, rfl, by have := hcell k x hx 0 (by omega); simpa [c1] using this⟩
      obtain ⟨g, rfl, hcx⟩ := hcx
      clear hx
      go_wp2_with (at_builtin; go_loud (refine app_int (hr.out.alloc _) (by rfl) _ _ _ (by rfl) (by kernel_rfl) (by rfl) _ (d.tdiv (x * x)) (by rfl) (heap_alloc_new _ _) hlen (by simp; omega) ?_))
      intro v1' w1 hr1' hg1 hat1
      have hrd' : Rw w.heap.size 3 1 c1 w1 _ (divL K) := ((hrd.out.alloc _).apart hg1 hap.out.nel)
      have hap1 := hap.out.app hat1 (fun g hg => by have := (hrd.out.lt g hg).2; simp; omega)
      have hb1 : Below w.heap.size w w1 := below_of_grown (hb.out.alloc hb.out.size _) hg1 (by have := hb.out.size; simp; omega) (fun g hg => (hr.out.lt g hg).1)
      have HR1 := Lib.hid hr1'
      have HRD := Lib.hid hrd'
      have HA := Lib.hid hap1
      have HB := Lib.hid hb1
      clear hr1' hrd' hap1 hb1 hg1 hat1 hlen
      go_wp2
      go_roundw
      case rel =>
        go_light
        refine ⟨k + 1, by omega, by go_num, ?_, HRD.out, HA.out, HB.out⟩
        show Rw _ _ _ _ _ _ _
        rw [HX.out]
        exact HR1.out
      case measure => simp [intOf]; omega
    · have hk' : k = m := by omega
      subst hk'
      go_wp2
      go_ret2
      refine ⟨_, rfl, ?_, hb.out⟩
      have := hr.out
      rw [List.take_of_length_le (by rw [HM.out]; exact Nat.le_refl _)] at this
      rw [HO.out]
      exact this
theorem specOrd_any (d : Int) (w : World) (hd : I64 d) :
    Calls Try.prog 11 #[.int .i64 d] w fun en w' => ∃ v, en = .returned (.tuple #[v, .bool (negB d)]) ∧ Rw w.heap.size 3 1 c1 w' v (ordR d) ∧ Below w.heap.size w w' := by
  cases c : negB d with
  | true =>
    rw [ordR, if_pos c]
    exact specOrd_yes d w hd c
  | false =>
    rw [ordR, if_neg (by rw [c]; decide)]
    go_enter Try.func11, Try.ntmps11
    go_wp2_with (go_at_call 31; refine (reDisc_any _ _ hd).mono ?_; rintro e w' ⟨rfl, rfl⟩)
    go_ret2
    exact ⟨_, rfl, Rw.nil _ _ _ _ _, Below.refl _ _⟩
theorem fdK_le (d : Int) : (ordR d).length ≤ 1100000 := by
  cases c : negB d with
  | true =>
    obtain ⟨n1, n2, _⟩ := negB_true c
    exact ordR_len (fdK_bd (by omega) ⟨by omega, by omega⟩).2
  | false => rw [ordR, if_neg (by rw [c]; decide)]; simp
set_option maxRecDepth 100000 in
set_option maxHeartbeats 4000000 in
theorem law_ordersAbove (d : Int) (w : World) (hd : I64 d) :
    Calls Try.prog 3 #[.int .i64 d] w fun en w' => en = .returned (.bool true) ∧ Below w.heap.size w w' := by
  have hlen : (ordR d).length ≤ 1100000 := fdK_le d
  obtain ⟨n', hn'⟩ : ∃ n', (ordR d).length = n' := ⟨_, rfl⟩
  rw [hn'] at hlen
  have HN := Lib.hid hn'
  clear hn'
  go_enter Try.func3, Try.ntmps3
  go_wp2_with fail
  refine (specOrd_any d _ hd).mono ?_
  rintro e1 w1 ⟨v0, rfl, hr0, hB1⟩
  have hz1 := hB1.size
  obtain ⟨a0, k0, hv0, hk0, _, hs0⟩ := hr0.sees c1_len
  rw [HN.out] at hv0 hk0
  subst hv0
  clear hk0
  have R0 := Lib.hid hr0
  have S0 := Lib.hid hs0
  have B1 := Lib.hid hB1
  clear hr0 hs0 hB1
  go_wp2_with fail
  refine (implOrd_any d _ hd).mono ?_
  rintro e2 w2 ⟨v1, rfl, hr1, hB2⟩
  have hz2 := hB2.size
  obtain ⟨a1, k1, hv1, hk1, _, hs1⟩ := hr1.sees c1_len
  rw [HN.out] at hv1 hk1
  subst hv1
  clear hk1
  have R1 := Lib.hid hr1
  have S1 := Lib.hid hs1
  have B2 := Lib.hid hB2
  clear hr1 hs1 hB2
  go_wp2_with fail
  refine (eqIntS_same _ _ _ _ _ _ _ _ _ HN.out S1.out (S0.out.below B2.out) hlen).mono ?_
  rintro e3 w3 ⟨rfl, hB3⟩
  have hz3 := hB3.size
  have B3 := Lib.hid hB3
  clear hB3
  go_wp2_with fail
  refine (markIntS_any w1.heap.size n' _ _ 1 _ HN.out (R1.out.later B3.out) hlen (by omega) (by omega)).mono ?_
  rintro e4 w4 ⟨rfl, hM, hg4⟩
  have hz4 := hg4.size
  have hap : (Value.slice a0 n' k0).ownBlock = none ∨ (Value.slice a0 n' k0).ownBlock ≠ (Value.slice a1 n' k1).ownBlock := by
    cases h0 : (Value.slice a0 n' k0).ownBlock with
    | none => exact .inl rfl
    | some g =>
      right
      intro h1
      have q1 := (R0.out.lt g h0).2
      have q2 := (R1.out.lt g h1.symm).1
      omega
  have hr04 : Rw w.heap.size 3 1 c1 w4 (.slice a0 n' k0) (ordR d) := ((R0.out.later B2.out).later B3.out).apart hg4 hap
  have hB4 : Below w.heap.size w w4 := below_of_grown (B1.out.trans ((B2.out.mono hz1).trans (B3.out.mono (by omega)))) hg4 (by omega) (fun g hg => by have := (R1.out.lt g hg).1; omega)
  obtain ⟨am, km, hem, hms⟩ := hM.sees
  simp only [Value.slice.injEq] at hem
  obtain ⟨rfl, -, rfl⟩ := hem
  have R04 := Lib.hid hr04
  have B4 := Lib.hid hB4
  have M4 := Lib.hid hM
  have N4 := Lib.hid hms
  clear hr04 hB4 hM hms hg4 hap
  go_wp2_with fail
  refine (heldIntS_any n' _ _ 1 _ N4.out hlen (by omega) (by omega)).mono ?_
  rintro e5 w5 ⟨rfl, hB5⟩
  have hz5 := hB5.size
  have B5 := Lib.hid hB5
  clear hB5
  go_wp2_with fail
  refine (implOrd_any d _ hd).mono ?_
  rintro e6 w6 ⟨v2, rfl, hr2, hB6⟩
  have hz6 := hB6.size
  obtain ⟨a2, k2, hv2, hk2, _, hs2⟩ := hr2.sees c1_len
  rw [HN.out] at hv2 hk2
  subst hv2
  clear hk2
  have R2 := Lib.hid hr2
  have S2 := Lib.hid hs2
  have B6 := Lib.hid hB6
  clear hr2 hs2 hB6
  go_wp2_with fail
  refine (eqIntS_same _ _ _ _ _ _ _ _ _ HN.out S2.out (((R04.out.seen c1_len).1.below B5.out).below B6.out) hlen).mono ?_
  rintro e7 w7 ⟨rfl, hB7⟩
  have hz7 := hB7.size
  have B7 := Lib.hid hB7
  clear hB7
  go_wp2_with fail
  refine (heldIntS_any n' _ _ 1 _ (((N4.out.below B5.out).below B6.out).below B7.out) hlen (by omega) (by omega)).mono ?_
  rintro e8 w8 ⟨rfl, hB8⟩
  have hz8 := hB8.size
  have B8 := Lib.hid hB8
  clear hB8
  go_wp2
  go_ret
  refine ⟨rfl, ?_⟩
  exact B4.out.trans ((B5.out.mono (by omega)).trans ((B6.out.mono (by omega)).trans ((B7.out.mono (by omega)).trans (B8.out.mono (by omega)))))
end Go.Proofs.Ytdahpjbpcdfhkaa
