/-
  The lattices of an index, and the matrices of a prime index: both ways make the same list. Printed by mksubl.py.
-/
import Derived.Test.YtdeboabifcpdbaaDiv
namespace Go.Proofs.Ytdeboabifcpdbaa
open Go.RowKit
attribute [local simp, local go_sem] past_cell past_frozen past_tape
theorem flat_le {α β : Type} (F : α → List β) (m : Nat) (l : List α) (h : ∀ x ∈ l, (F x).length ≤ m) : (l.flatMap F).length ≤ l.length * m := by
  induction l with
  | nil => simp
  | cons x l ih =>
    have h1 := h x (by simp)
    have h2 := ih fun y hy => h y (by simp [hy])
    rw [List.flatMap_cons, List.length_append, List.length_cons, Nat.add_mul]
    omega
theorem divL_len {n : Int} (h : 1 ≤ n) (h2 : n ≤ 1000) : (divL n).length ≤ 2000 := by
  have h1 := lowD_len n n.toNat
  have h2 := highD_len n n.toNat
  unfold divL
  simp
  omega
theorem take_flat {α β : Type} (F : α → List β) (l : List α) (k : Nat) (x : α) (h : l[k]? = some x) : (l.take (k + 1)).flatMap F = (l.take k).flatMap F ++ F x := by
  rw [List.take_add_one, h]
  simp
def subF (n a : Int) (b : Nat) : List (Int × Int × Int) := (List.range b).map fun b : Nat => (a, (b : Int), n / a)
def subL (n : Int) : List (Int × Int × Int) := (divL n).flatMap fun a => subF n a a.toNat
theorem subF_next (n a : Int) (b : Nat) : subF n a (b + 1) = subF n a b ++ [(a, (b : Int), n / a)] := by simp [subF, List.range_succ]
theorem subF_len (n a : Int) (b : Nat) : (subF n a b).length = b := by simp [subF]
theorem subL_take {n : Int} (h : 1 ≤ n) (h2 : n ≤ 100) (k : Nat) : (((divL n).take k).flatMap fun a => subF n a a.toNat).length ≤ 200000 := by
  have h3 := divL_len h (by omega)
  refine Nat.le_trans (flat_le _ 100 _ fun x hx => ?_) ?_
  · have := mem_divL h (List.mem_of_mem_take hx)
    rw [subF_len]; omega
  · have : ((divL n).take k).length ≤ 2000 := by rw [List.length_take]; omega
    omega
def subR (n : Int) : List (Int × Int × Int) := if 1 ≤ n ∧ n ≤ 100 then subL n else []
theorem subR_len (n : Int) : (subR n).length ≤ 1100000 := by
  unfold subR
  split
  · rename_i h
    have := subL_take h.1 h.2 (divL n).length
    rw [List.take_length] at this
    unfold subL
    omega
  · simp
set_option maxRecDepth 100000 in
set_option maxHeartbeats 4000000 in
theorem laAll_any (n : Int) (w : World) (hn : 1 ≤ n) (hn2 : n ≤ 100) :
    Calls Try.prog 71 #[.int .i64 n] w fun en w' => ∃ v, en = .returned v ∧ Rw w.heap.size 25 3 c3 w' v (subL n) ∧ Below w.heap.size w w' := by
  have hDL := divL_len hn (by omega)
  obtain ⟨m, hm⟩ : ∃ m, (divL n).length = m := ⟨_, rfl⟩
  rw [hm] at hDL
  have HM := Lib.hid hm
  clear hm
  go_enter Try.func71, Try.ntmps71
  go_wp2_with fail
  refine (nuDivisors_any n _ hn (by omega)).mono ?_
  rintro e1 w1 ⟨vd, rfl, hrd, hB1⟩
  have hz1 := hB1.size
  (try simp at hz1)
  obtain ⟨ad, kd, hvd, hkd, _, _⟩ := hrd.sees c1_len
  rw [HM.out] at hvd hkd
  subst hvd
  clear hkd
  have RD := Lib.hid hrd
  have B1 := Lib.hid hB1
  clear hrd hB1
  go_wp2
  go_loopw [3, 10] (fun v i wr => ∃ k : Nat, k ≤ m ∧ i = .int .i64 (k : Int) ∧ Hid (Rw w.heap.size 25 3 c3 wr v (((divL n).take k).flatMap fun a => subF n a a.toNat)) ∧ Hid (Rw w.heap.size 3 1 c1 wr (.slice ad m kd) (divL n)) ∧ Hid (Ap v (.slice ad m kd)) ∧ Hid (Below w.heap.size w wr)) (fun _ i _ => m - (intOf i).toNat)
  case atStart =>
    refine ⟨0, by omega, rfl, ?_, RD.out, ?_, ?_⟩
    · show Rw _ _ _ _ _ _ _
      exact Rw.nil _ _ _ _ _
    · show Ap _ _
      intro g h1 h2; simp [Value.ownBlock] at h1
    · show Below _ _ _
      have h := B1.out
      repeat (first | with_reducible exact Below.refl _ _ | with_reducible assumption | ((with_reducible refine blA ?_ ?_); (focus (first | omega | (simp <;> omega)))) | (with_reducible refine blD ?_) | (with_reducible refine blN ?_) | ((with_reducible refine blS ?_ ?_); (focus (first | omega | (simp <;> omega)))) | ((with_reducible refine blT (by assumption) ?_ ?_); (focus (first | omega | (simp <;> omega)))))
  case round =>
    obtain ⟨k, hk, rfl, hr, hrd, hap, hb⟩ := hrel
    have hbz := hb.out.size
    obtain ⟨wo, rfl⟩ : ∃ wo : World, wo = wr := ⟨_, rfl⟩
    by_cases hkm : k < m
    · obtain ⟨x, hx⟩ := get_some HM.out hkm
      obtain ⟨x1, x2, _⟩ := mem_divL hn (List.mem_of_getElem? hx)
      have HX := Lib.hid (take_flat (fun a => subF n a a.toNat) (divL n) k x hx)
      have hln := subL_take hn hn2 k
      have hcx : ∃ g, ad = some ⟨g, 0, none⟩ ∧ wo.cell? ⟨g, k, none⟩ = some (.int .i64 x) := by
        rcases (hrd.out.seen c1_len).1 with h0 | ⟨g, rfl, _, _, hcell, _⟩
        · have := HM.out; omega
        · exact ⟨g, rfl, by have := hcell k x hx 0 (by omega); simpa [c1] using this⟩
      obtain ⟨g, rfl, hcx⟩ := hcx
      clear hx
      go_wp2
      go_loopw [3, 6] (fun v i wr => ∃ b : Nat, (b : Int) ≤ x ∧ i = .int .i64 (b : Int) ∧ Hid (Rw w.heap.size 25 3 c3 wr v ((((divL n).take k).flatMap fun a => subF n a a.toNat) ++ subF n x b)) ∧ Hid (Rw w.heap.size 3 1 c1 wr (.slice (some ⟨g, 0, none⟩) m kd) (divL n)) ∧ Hid (Ap v (.slice (some ⟨g, 0, none⟩) m kd)) ∧ Hid (Below w.heap.size w wr)) (fun _ i _ => (x - intOf i).toNat)
      case atStart =>
        refine ⟨0, by omega, rfl, ?_, hrd.out, hap.out, hb.out⟩
        show Rw _ _ _ _ _ _ _
        simpa [subF] using hr.out
      case round =>
        obtain ⟨b, hbx, rfl, hr, hrd, hap, hb⟩ := hrel
        have hbz := hb.out.size
        by_cases hlt : (b : Int) < x
        · have hlen : ((((divL n).take k).flatMap fun a => subF n a a.toNat) ++ subF n x b).length ≤ 1000000 := by
            rw [List.length_append, subF_len]; omega
          go_wp2_with (at_builtin; go_loud (refine app_lattice (hr.out.alloc _) (by rfl) _ _ _ (by rfl) (by kernel_rfl) (by rfl) _ (x, (b : Int), n / x) (by rfl) (heap_alloc_new _ _) hlen (by simp; omega) ?_))
          intro v1' w1 hr1' hg1 hat1
          have hrd' : Rw w.heap.size 3 1 c1 w1 _ (divL n) := ((hrd.out.alloc _).apart hg1 hap.out.nel)
          have hap1 := hap.out.app hat1 (fun g hg => by have := (hrd.out.lt g hg).2; simp; omega)
          have hb1 : Below w.heap.size w w1 := below_of_grown (hb.out.alloc hb.out.size _) hg1 (by have := hb.out.size; simp; omega) (fun g hg => (hr.out.lt g hg).1)
          have HR1 := Lib.hid hr1'
          have HRD := Lib.hid hrd'
          have HA := Lib.hid hap1
          have HB := Lib.hid hb1
          clear hr1' hrd' hap1 hb1 hg1 hat1 hlen
          go_wp2
          go_roundw
          case rel =>
            go_light
            refine ⟨b + 1, by omega, by go_num, ?_, HRD.out, HA.out, HB.out⟩
            show Rw _ _ _ _ _ _ _
            rw [subF_next]
            exact HR1.out
          case measure => simp [intOf]; omega
        · have hbe : x.toNat = b := by omega
          have HE := Lib.hid hbe
          clear hbe
          go_wp2
          go_roundw
          case rel =>
            go_light
            refine ⟨k + 1, by omega, by go_num, ?_, hrd.out, hap.out, hb.out⟩
            show Rw _ _ _ _ _ _ _
            rw [HX.out, HE.out]
            exact hr.out
          case measure => simp [intOf]; omega
    · have hk' : k = m := by omega
      subst hk'
      go_wp2
      go_ret
      refine ⟨_, rfl, ?_, hb.out⟩
      have := hr.out
      rw [List.take_of_length_le (by rw [HM.out]; exact Nat.le_refl _)] at this
      exact this
set_option maxRecDepth 100000 in
set_option maxHeartbeats 4000000 in
theorem implSubOk_any (n : Int) (w : World) (hn : 1 ≤ n) (hn2 : n ≤ 100) :
    Calls Try.prog 35 #[.int .i64 n] w fun en w' => ∃ v, en = .returned (.tuple #[v, .bool true]) ∧ Rw w.heap.size 25 3 c3 w' v (subL n) ∧ Below w.heap.size w w' := by
  have hDL := divL_len hn (by omega)
  obtain ⟨m, hm⟩ : ∃ m, (divL n).length = m := ⟨_, rfl⟩
  rw [hm] at hDL
  have HM := Lib.hid hm
  clear hm
  go_enter Try.func35, Try.ntmps35
  go_wp2_with fail
  refine (divisors_any n _ hn (by omega)).mono ?_
  rintro e1 w1 ⟨vd, rfl, hrd, hB1⟩
  have hz1 := hB1.size
  (try simp at hz1)
  obtain ⟨ad, kd, hvd, hkd, _, _⟩ := hrd.sees c1_len
  rw [HM.out] at hvd hkd
  subst hvd
  clear hkd
  have RD := Lib.hid hrd
  have B1 := Lib.hid hB1
  clear hrd hB1
  go_wp2
  go_loopw [4, 19] (fun v i wr => ∃ k : Nat, k ≤ m ∧ i = .int .i64 (k : Int) ∧ Hid (Rw w.heap.size 25 3 c3 wr v (((divL n).take k).flatMap fun a => subF n a a.toNat)) ∧ Hid (Rw (w.alloc (.cells #[] 25)).heap.size 3 1 c1 wr (.slice ad m kd) (divL n)) ∧ Hid (Ap v (.slice ad m kd)) ∧ Hid (Below w.heap.size w wr)) (fun _ i _ => m - (intOf i).toNat)
  case atStart =>
    refine ⟨0, by omega, rfl, ?_, RD.out, ?_, ?_⟩
    · show Rw _ _ _ _ _ _ _
      exact (Rw.empty (Nat.le_refl _)).later B1.out
    · show Ap _ _
      intro g h1 h2; have := (RD.out.lt g h2).1; simp [Value.ownBlock] at h1; simp at this; omega
    · show Below _ _ _
      have h := B1.out
      repeat (first | with_reducible exact Below.refl _ _ | with_reducible assumption | ((with_reducible refine blA ?_ ?_); (focus (first | omega | (simp <;> omega)))) | (with_reducible refine blD ?_) | (with_reducible refine blN ?_) | ((with_reducible refine blS ?_ ?_); (focus (first | omega | (simp <;> omega)))) | ((with_reducible refine blT (by assumption) ?_ ?_); (focus (first | omega | (simp <;> omega)))))
  case round =>
    obtain ⟨k, hk, rfl, hr, hrd, hap, hb⟩ := hrel
    have hbz := hb.out.size
    obtain ⟨wo, rfl⟩ : ∃ wo : World, wo = wr := ⟨_, rfl⟩
    by_cases hkm : k < m
    · obtain ⟨x, hx⟩ := get_some HM.out hkm
      obtain ⟨x1, x2, _⟩ := mem_divL hn (List.mem_of_getElem? hx)
      have HX := Lib.hid (take_flat (fun a => subF n a a.toNat) (divL n) k x hx)
      have hln := subL_take hn hn2 k
      have hcx : ∃ g, ad = some ⟨g, 0, none⟩ ∧ wo.cell? ⟨g, k, none⟩ = some (.int .i64 x) := by
        rcases (hrd.out.seen c1_len).1 with h0 | ⟨g, rfl, _, _, hcell, _⟩
        · have := HM.out; omega
        · exact ⟨g, rfl, by have := hcell k x hx 0 (by omega); simpa [c1] using this⟩
      obtain ⟨g, rfl, hcx⟩ := hcx
      clear hx
      go_wp2
      go_loopw [4, 7] (fun v i wr => ∃ b : Nat, (b : Int) ≤ x ∧ i = .int .i64 (b : Int) ∧ Hid (Rw w.heap.size 25 3 c3 wr v ((((divL n).take k).flatMap fun a => subF n a a.toNat) ++ subF n x b)) ∧ Hid (Rw (w.alloc (.cells #[] 25)).heap.size 3 1 c1 wr (.slice (some ⟨g, 0, none⟩) m kd) (divL n)) ∧ Hid (Ap v (.slice (some ⟨g, 0, none⟩) m kd)) ∧ Hid (Below w.heap.size w wr)) (fun _ i _ => (x - intOf i).toNat)
      case atStart =>
        refine ⟨0, by omega, rfl, ?_, hrd.out, hap.out, hb.out⟩
        show Rw _ _ _ _ _ _ _
        simpa [subF] using hr.out
      case round =>
        obtain ⟨b, hbx, rfl, hr, hrd, hap, hb⟩ := hrel
        have hbz := hb.out.size
        by_cases hlt : (b : Int) < x
        · have hlen : ((((divL n).take k).flatMap fun a => subF n a a.toNat) ++ subF n x b).length ≤ 1000000 := by
            rw [List.length_append, subF_len]; omega
          go_wp2_with (at_builtin; go_loud (refine app_lattice (hr.out.alloc _) (by rfl) _ _ _ (by rfl) (by kernel_rfl) (by rfl) _ (x, (b : Int), n / x) (by rfl) (heap_alloc_new _ _) hlen (by simp; omega) ?_))
          intro v1' w1 hr1' hg1 hat1
          have hrd' : Rw (w.alloc (.cells #[] 25)).heap.size 3 1 c1 w1 _ (divL n) := ((hrd.out.alloc _).apart hg1 hap.out.nel)
          have hap1 := hap.out.app hat1 (fun g hg => by have := (hrd.out.lt g hg).2; simp; omega)
          have hb1 : Below w.heap.size w w1 := below_of_grown (hb.out.alloc hb.out.size _) hg1 (by have := hb.out.size; simp; omega) (fun g hg => (hr.out.lt g hg).1)
          have HR1 := Lib.hid hr1'
          have HRD := Lib.hid hrd'
          have HA := Lib.hid hap1
          have HB := Lib.hid hb1
          clear hr1' hrd' hap1 hb1 hg1 hat1 hlen
          go_wp2
          go_roundw
          case rel =>
            go_light
            refine ⟨b + 1, by omega, by go_num, ?_, HRD.out, HA.out, HB.out⟩
            show Rw _ _ _ _ _ _ _
            rw [subF_next]
            exact HR1.out
          case measure => simp [intOf]; omega
        · have hbe : x.toNat = b := by omega
          have HE := Lib.hid hbe
          clear hbe
          go_wp2
          go_roundw
          case rel =>
            go_light
            refine ⟨k + 1, by omega, by go_num, ?_, hrd.out, hap.out, hb.out⟩
            show Rw _ _ _ _ _ _ _
            rw [HX.out, HE.out]
            exact hr.out
          case measure => simp [intOf]; omega
    · have hk' : k = m := by omega
      subst hk'
      go_wp2
      go_ret2
      refine ⟨_, rfl, ?_, hb.out⟩
      have := hr.out
      rw [List.take_of_length_le (by rw [HM.out]; exact Nat.le_refl _)] at this
      exact this
theorem implSublatticesOf_any (n : Int) (w : World) :
    Calls Try.prog 35 #[.int .i64 n] w fun en w' => ∃ v, en = .returned (.tuple #[v, .bool (decide (1 ≤ n ∧ n ≤ 100))]) ∧ Rw w.heap.size 25 3 c3 w' v (subR n) ∧ Below w.heap.size w w' := by
  by_cases c : 1 ≤ n ∧ n ≤ 100
  · rw [decide_eq_true c, subR, if_pos c]
    exact implSubOk_any n w c.1 c.2
  · rw [decide_eq_false c, subR, if_neg c]
    rcases (show n < 1 ∨ 100 < n by omega) with h | h
    · clear c
      go_enter Try.func35, Try.ntmps35
      go_wp2
      go_ret2
      exact ⟨_, rfl, Rw.empty (Nat.le_refl _), (Below.refl _ _).alloc (Nat.le_refl _) _⟩
    · have h1 : ¬ n < 1 := by omega
      clear c
      go_enter Try.func35, Try.ntmps35
      go_wp2
      go_ret2
      exact ⟨_, rfl, Rw.empty (Nat.le_refl _), (Below.refl _ _).alloc (Nat.le_refl _) _⟩
theorem specSublatticesOf_any (n : Int) (w : World) :
    Calls Try.prog 34 #[.int .i64 n] w fun en w' => ∃ v, en = .returned (.tuple #[v, .bool (decide (1 ≤ n ∧ n ≤ 100))]) ∧ Rw w.heap.size 25 3 c3 w' v (subR n) ∧ Below w.heap.size w w' := by
  by_cases c : 1 ≤ n ∧ n ≤ 100
  · rw [decide_eq_true c, subR, if_pos c]
    obtain ⟨c1, c2⟩ := c
    have hin : inB n 1 100 = true := by simp [inB]; omega
    go_enter Try.func34, Try.ntmps34
    go_wp2_with (first | (go_at_call 70; refine (l1In_any _ _ _ _).mono ?_; rintro e w' ⟨rfl, rfl⟩) | (go_at_call 71; refine (laAll_any n _ c1 c2).mono ?_; rintro e w' ⟨v, rfl, hr, hB⟩))
    go_ret2
    exact ⟨_, rfl, hr, hB⟩
  · rw [decide_eq_false c, subR, if_neg c]
    have hin : inB n 1 100 = false := by simp [inB]; omega
    go_enter Try.func34, Try.ntmps34
    go_wp2_with (go_at_call 70; refine (l1In_any _ _ _ _).mono ?_; rintro e w' ⟨rfl, rfl⟩)
    go_ret2
    exact ⟨_, rfl, Rw.nil _ _ _ _ _, Below.refl _ _⟩
set_option maxRecDepth 100000 in
set_option maxHeartbeats 4000000 in
theorem law_sublatticesOf (n : Int) (w : World) (_ : I64 n) :
    Calls Try.prog 10 #[.int .i64 n] w fun en w' => en = .returned (.bool true) ∧ Below w.heap.size w w' := by
  have hlen : (subR n).length ≤ 1100000 := subR_len n
  obtain ⟨n', hn'⟩ : ∃ n', (subR n).length = n' := ⟨_, rfl⟩
  rw [hn'] at hlen
  have HN := Lib.hid hn'
  clear hn'
  go_enter Try.func10, Try.ntmps10
  go_wp2_with fail
  refine (specSublatticesOf_any n _).mono ?_
  rintro e1 w1 ⟨v0, rfl, hr0, hB1⟩
  have hz1 := hB1.size
  obtain ⟨a0, k0, hv0, hk0, _, hs0⟩ := hr0.sees c3_len
  rw [HN.out] at hv0 hk0
  subst hv0
  clear hk0
  have R0 := Lib.hid hr0
  have S0 := Lib.hid hs0
  have B1 := Lib.hid hB1
  clear hr0 hs0 hB1
  go_wp2_with fail
  refine (implSublatticesOf_any n _).mono ?_
  rintro e2 w2 ⟨v1, rfl, hr1, hB2⟩
  have hz2 := hB2.size
  obtain ⟨a1, k1, hv1, hk1, _, hs1⟩ := hr1.sees c3_len
  rw [HN.out] at hv1 hk1
  subst hv1
  clear hk1
  have R1 := Lib.hid hr1
  have S1 := Lib.hid hs1
  have B2 := Lib.hid hB2
  clear hr1 hs1 hB2
  go_wp2_with fail
  refine (eqLatticeS_same _ _ _ _ _ _ _ _ _ HN.out S1.out (S0.out.below B2.out) hlen).mono ?_
  rintro e3 w3 ⟨rfl, hB3⟩
  have hz3 := hB3.size
  have B3 := Lib.hid hB3
  clear hB3
  go_wp2_with fail
  refine (markLatticeS_any w1.heap.size n' _ _ 1 _ HN.out (R1.out.later B3.out) hlen (by omega) (by omega)).mono ?_
  rintro e4 w4 ⟨rfl, hM, hg4⟩
  have hz4 := hg4.size
  have hap : (Value.slice a0 n' k0).ownBlock = none ∨ (Value.slice a0 n' k0).ownBlock ≠ (Value.slice a1 n' k1).ownBlock := by
    cases h0 : (Value.slice a0 n' k0).ownBlock with
    | none => exact .inl rfl
    | some g =>
      right
      intro h1
      have q1 := (R0.out.lt g h0).2
      have q2 := (R1.out.lt g h1.symm).1
      omega
  have hr04 : Rw w.heap.size 25 3 c3 w4 (.slice a0 n' k0) (subR n) := ((R0.out.later B2.out).later B3.out).apart hg4 hap
  have hB4 : Below w.heap.size w w4 := below_of_grown (B1.out.trans ((B2.out.mono hz1).trans (B3.out.mono (by omega)))) hg4 (by omega) (fun g hg => by have := (R1.out.lt g hg).1; omega)
  obtain ⟨am, km, hem, hms⟩ := hM.sees
  simp only [Value.slice.injEq] at hem
  obtain ⟨rfl, -, rfl⟩ := hem
  have R04 := Lib.hid hr04
  have B4 := Lib.hid hB4
  have M4 := Lib.hid hM
  have N4 := Lib.hid hms
  clear hr04 hB4 hM hms hg4 hap
  go_wp2_with fail
  refine (heldLatticeS_any n' _ _ 1 _ N4.out hlen (by omega) (by omega)).mono ?_
  rintro e5 w5 ⟨rfl, hB5⟩
  have hz5 := hB5.size
  have B5 := Lib.hid hB5
  clear hB5
  go_wp2_with fail
  refine (implSublatticesOf_any n _).mono ?_
  rintro e6 w6 ⟨v2, rfl, hr2, hB6⟩
  have hz6 := hB6.size
  obtain ⟨a2, k2, hv2, hk2, _, hs2⟩ := hr2.sees c3_len
  rw [HN.out] at hv2 hk2
  subst hv2
  clear hk2
  have R2 := Lib.hid hr2
  have S2 := Lib.hid hs2
  have B6 := Lib.hid hB6
  clear hr2 hs2 hB6
  go_wp2_with fail
  refine (eqLatticeS_same _ _ _ _ _ _ _ _ _ HN.out S2.out (((R04.out.seen c3_len).1.below B5.out).below B6.out) hlen).mono ?_
  rintro e7 w7 ⟨rfl, hB7⟩
  have hz7 := hB7.size
  have B7 := Lib.hid hB7
  clear hB7
  go_wp2_with fail
  refine (heldLatticeS_any n' _ _ 1 _ (((N4.out.below B5.out).below B6.out).below B7.out) hlen (by omega) (by omega)).mono ?_
  rintro e8 w8 ⟨rfl, hB8⟩
  have hz8 := hB8.size
  have B8 := Lib.hid hB8
  clear hB8
  go_wp2
  go_ret
  refine ⟨rfl, ?_⟩
  exact B4.out.trans ((B5.out.mono (by omega)).trans ((B6.out.mono (by omega)).trans ((B7.out.mono (by omega)).trans (B8.out.mono (by omega)))))
end Go.Proofs.Ytdeboabifcpdbaa
