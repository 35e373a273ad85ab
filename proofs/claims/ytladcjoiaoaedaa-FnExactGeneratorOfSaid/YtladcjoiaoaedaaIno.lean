/-
  IdealsOfNorm, CountIdeals: both ways. Printed by mkpi.py.
-/
import Derived.Test.YtladcjoiaoaedaaPi
namespace Go.Proofs.Ytladcjoiaoaedaa
open Go.RowKit
attribute [local simp, local go_sem] past_cell past_frozen past_tape
def trp (e a : Int) (l : List Int) : List (Int × Int × Int) := l.map fun b => (e, a, b)
theorem trp_snoc (e a x : Int) (l : List Int) : trp e a (l ++ [x]) = trp e a l ++ [(e, a, x)] := by simp [trp]
theorem trp_len (e a : Int) (l : List Int) : (trp e a l).length = l.length := by simp [trp]
def inL (d n : Int) : Nat → List (Int × Int × Int)
  | 0 => []
  | k + 1 => if ((k : Int) + 1) * ((k : Int) + 1) ≤ n ∧ n % (((k : Int) + 1) * ((k : Int) + 1)) = 0 then inL d n k ++ trp ((k : Int) + 1) (n / (((k : Int) + 1) * ((k : Int) + 1))) (rtA d (n / (((k : Int) + 1) * ((k : Int) + 1)))) else inL d n k
def inR (d n : Int) : List (Int × Int × Int) := if fnB d && decide (1 ≤ n ∧ n ≤ 2000) then inL d n n.toNat else []
theorem inL_stop {d n : Int} {k : Nat} (h : n < ((k : Int) + 1) * ((k : Int) + 1)) (m : Nat) : inL d n (k + m) = inL d n k := by
  induction m with
  | zero => rfl
  | succ m ih =>
    have := sq_le_sq (show (0 : Int) ≤ (k : Int) + 1 by omega) (show (k : Int) + 1 ≤ ((k + m : Nat) : Int) + 1 by omega)
    rw [show k + (m + 1) = (k + m) + 1 by omega, inL, if_neg (by omega), ih]
theorem inL_eq {d n : Int} {k : Nat} (h0 : (k : Int) * k ≤ n) (h : n < ((k : Int) + 1) * ((k : Int) + 1)) : inL d n n.toNat = inL d n k := by
  have := self_le_sq k
  rw [show n.toNat = k + (n.toNat - k) by omega, inL_stop h]
theorem rtA_len {d n : Int} (h2 : n ≤ 2000) : (rtA d n).length ≤ 4000 := by
  have := rtL_len d n (2 * n).toNat
  unfold rtA
  omega
theorem sq_ge {k : Nat} : (1 : Int) ≤ ((k : Int) + 1) * ((k : Int) + 1) := Int.mul_le_mul (show (1 : Int) ≤ (k : Int) + 1 by omega) (show (1 : Int) ≤ (k : Int) + 1 by omega) (by omega) (by omega)
theorem inL_len {d n : Int} (h1 : 1 ≤ n) (h2 : n ≤ 2000) (k : Nat) : (inL d n k).length ≤ 4000 * k := by
  induction k with
  | zero => simp [inL]
  | succ k ih =>
    unfold inL
    split
    · have hd := Int.ediv_le_self (((k : Int) + 1) * ((k : Int) + 1)) (show 0 ≤ n by omega)
      have := rtA_len (d := d) (n := n / (((k : Int) + 1) * ((k : Int) + 1))) (by omega)
      rw [List.length_append, trp_len]
      omega
    · omega
theorem inR_len (d n : Int) : (inR d n).length ≤ 1100000 := by
  unfold inR
  split
  · rename_i h
    simp at h
    obtain ⟨_, h1, h2⟩ := h
    -- the first numbers alone
    have key : ∀ k : Nat, (inL d n k).length ≤ 4000 * min k 44 := by
      intro k
      rcases Nat.le_total k 44 with h | h
      · have := inL_len (d := d) h1 h2 k
        rw [Nat.min_eq_left h]; exact this
      · have e := inL_stop (d := d) (n := n) (k := 44) (by omega) (k - 44)
        rw [show 44 + (k - 44) = k by omega] at e
        rw [e, Nat.min_eq_right h]
        exact inL_len h1 h2 44
    have := key n.toNat
    have h3 : min n.toNat 44 ≤ 44 := Nat.min_le_right _ _
    omega
  · simp
set_option maxRecDepth 100000 in
set_option maxHeartbeats 4000000 in
theorem piAll_any (d n : Int) (w : World) (d1 : -2000 ≤ d) (d2 : d ≤ 0) (n1 : 1 ≤ n) (n2 : n ≤ 2000) :
    Calls Try.prog 37 #[.int .i64 d, .int .i64 n] w fun en w' => ∃ v, en = .returned v ∧ Rw w.heap.size 34 3 c3 w' v (inL d n n.toNat) ∧ Below w.heap.size w w' := by
  go_enter Try.func37, Try.ntmps37
  go_wp2
  go_loopw [5, 6] (fun v i wr => ∃ k : Nat, i = .int .i64 ((k : Int) + 1) ∧ (k : Int) * k ≤ n ∧ k ≤ 44 ∧ Hid (Rw w.heap.size 34 3 c3 wr v (inL d n k)) ∧ Hid (Below w.heap.size w wr)) (fun _ i _ => (n + 1 - intOf i).toNat)
  case atStart => exact ⟨0, by go_num, by omega, by omega, Rw.nil _ _ _ _ _, Below.refl _ _⟩
  case round =>
    obtain ⟨k, rfl, hkn, hk1, hr, hb⟩ := hrel
    have hbz := hb.out.size
    obtain ⟨wr_, rfl⟩ : ∃ wr_ : World, wr_ = wr := ⟨_, rfl⟩
    have hself := self_le_sq k
    by_cases hlt : ((k : Int) + 1) * ((k : Int) + 1) ≤ n
    · have hself' : (k : Int) + 1 ≤ ((k : Int) + 1) * ((k : Int) + 1) := self_le_sq (k + 1)
      have hk2 : k + 1 ≤ 44 := by
        rcases Nat.lt_or_ge 44 (k + 1) with h | h
        · have := sq_le_sq (show (0 : Int) ≤ 45 by omega) (show (45 : Int) ≤ (k : Int) + 1 by omega)
          omega
        · exact h
      have hsq1 : (1 : Int) ≤ ((k : Int) + 1) * ((k : Int) + 1) := sq_ge
      have hlen0 := Lib.hid (inL_len (d := d) n1 n2 k)
      by_cases hd : n % (((k : Int) + 1) * ((k : Int) + 1)) = 0
      · have HN : Hid (inL d n (k + 1) = inL d n k ++ trp ((k : Int) + 1) (n / (((k : Int) + 1) * ((k : Int) + 1))) (rtA d (n / (((k : Int) + 1) * ((k : Int) + 1))))) := by show _ = _; rw [inL, if_pos ⟨hlt, hd⟩]
        have hA2 := Int.ediv_le_self (((k : Int) + 1) * ((k : Int) + 1)) (show 0 ≤ n by omega)
        have hA1 : 1 ≤ n / (((k : Int) + 1) * ((k : Int) + 1)) := by
          have h0 := Int.emod_add_mul_ediv n (((k : Int) + 1) * ((k : Int) + 1))
          rcases Int.lt_or_le 0 (n / (((k : Int) + 1) * ((k : Int) + 1))) with h | h
          · omega
          · have := Int.mul_nonpos_of_nonneg_of_nonpos (show 0 ≤ ((k : Int) + 1) * ((k : Int) + 1) by omega) h
            omega
        have HLR := Lib.hid (rtA_len (d := d) (n := n / (((k : Int) + 1) * ((k : Int) + 1))) (by omega))
        go_wp2
        rw [hd]
        go_loopw [5, 8] (fun v i wr => ∃ b : Nat, i = .int .i64 (b : Int) ∧ (b : Int) ≤ 2 * (n / (((k : Int) + 1) * ((k : Int) + 1))) ∧ Hid (Rw w.heap.size 34 3 c3 wr v (inL d n k ++ trp ((k : Int) + 1) (n / (((k : Int) + 1) * ((k : Int) + 1))) (rtL d (n / (((k : Int) + 1) * ((k : Int) + 1))) b))) ∧ Hid (Below w.heap.size w wr)) (fun _ i _ => (2 * (n / (((k : Int) + 1) * ((k : Int) + 1))) - intOf i).toNat)
        case atStart =>
          refine ⟨0, rfl, by omega, ?_, hb.out⟩
          show Rw _ _ _ _ _ _ _
          simpa [rtL, trp] using hr.out
        case round =>
          obtain ⟨b, rfl, hb2, hr2, hbb⟩ := hrel
          have hbz2 := hbb.out.size
          by_cases hbl : (b : Int) < 2 * (n / (((k : Int) + 1) * ((k : Int) + 1)))
          · have hs1 := sq_le_sq (show (0 : Int) ≤ (b : Int) by omega) (show (b : Int) ≤ 4000 by omega)
            have hs2 : (b : Int) * b ≤ 16000000 := by omega
            have hs3 := self_le_sq b
            clear hs1
            have hl := rtL_len d (n / (((k : Int) + 1) * ((k : Int) + 1))) b
            by_cases hc : ((b : Int) * b - d) % (4 * (n / (((k : Int) + 1) * ((k : Int) + 1)))) = 0
            · have HB2 : Hid (rtL d (n / (((k : Int) + 1) * ((k : Int) + 1))) (b + 1) = rtL d (n / (((k : Int) + 1) * ((k : Int) + 1))) b ++ [(b : Int)]) := by show _ = _; rw [rtL, if_pos hc]
              have hz2 : (((b : Int) * b - d) % (4 * (n / (((k : Int) + 1) * ((k : Int) + 1)))) == 0) = true := by simp [hc]
              have hlen : (inL d n k ++ trp ((k : Int) + 1) (n / (((k : Int) + 1) * ((k : Int) + 1))) (rtL d (n / (((k : Int) + 1) * ((k : Int) + 1))) b)).length ≤ 1000000 := by
                have := hlen0.out
                rw [List.length_append, trp_len]; omega
              clear hc
              go_wp2_with (at_builtin; go_loud (refine app_ideal (hr2.out.alloc _) (by rfl) _ _ _ (by rfl) (by kernel_rfl) (by rfl) _ ((k : Int) + 1, (n / (((k : Int) + 1) * ((k : Int) + 1))), (b : Int)) (by rfl) (heap_alloc_new _ _) hlen (by simp; omega) ?_))
              intro v1' w1 hr1' hg1 hat1
              have hb1 : Below w.heap.size w w1 := below_of_grown (hbb.out.alloc hbb.out.size _) hg1 (by have := hbb.out.size; simp; omega) (fun g hg => (hr2.out.lt g hg).1)
              have HR1 := Lib.hid hr1'
              have HB := Lib.hid hb1
              clear hr1' hb1 hg1 hat1 hlen
              go_wp2
              go_roundw
              case rel =>
                go_light
                refine ⟨b + 1, by go_num, by omega, ?_, HB.out⟩
                show Rw _ _ _ _ _ _ _
                rw [HB2.out, trp_snoc]
                exact HR1.out
              case measure => simp [intOf]; omega
            · have HB2 : Hid (rtL d (n / (((k : Int) + 1) * ((k : Int) + 1))) (b + 1) = rtL d (n / (((k : Int) + 1) * ((k : Int) + 1))) b) := by show _ = _; rw [rtL, if_neg hc]
              have hz2 : (((b : Int) * b - d) % (4 * (n / (((k : Int) + 1) * ((k : Int) + 1)))) == 0) = false := by simp [hc]
              clear hc
              go_wp2
              go_roundw
              case rel =>
                go_light
                refine ⟨b + 1, by go_num, by omega, ?_, hbb.out⟩
                show Rw _ _ _ _ _ _ _
                rw [HB2.out]
                exact hr2.out
              case measure => simp [intOf]; omega
          · have HE2 : Hid (rtA d (n / (((k : Int) + 1) * ((k : Int) + 1))) = rtL d (n / (((k : Int) + 1) * ((k : Int) + 1))) b) := by show _ = _; unfold rtA; congr 1; omega
            go_wp2
            go_roundw
            case rel =>
              go_light
              refine ⟨k + 1, by go_num, by rw [show ((k + 1 : Nat) : Int) = (k : Int) + 1 by omega]; exact hlt, hk2, ?_, hbb.out⟩
              show Rw _ _ _ _ _ _ _
              rw [HN.out, HE2.out]
              exact hr2.out
            case measure => simp [intOf]; omega
      · have HN : Hid (inL d n (k + 1) = inL d n k) := by show _ = _; rw [inL, if_neg (fun h => hd h.2)]
        have hz : (n % (((k : Int) + 1) * ((k : Int) + 1)) == 0) = false := by simp [hd]
        clear hd
        go_wp2
        go_roundw
        case rel =>
          go_light
          refine ⟨k + 1, by go_num, by rw [show ((k + 1 : Nat) : Int) = (k : Int) + 1 by omega]; exact hlt, hk2, ?_, hb.out⟩
          show Rw _ _ _ _ _ _ _
          rw [HN.out]; exact hr.out
        case measure => simp [intOf]; omega
    · have hlt' : n < ((k : Int) + 1) * ((k : Int) + 1) := Int.not_le.1 hlt
      have hX0 := sq_le_sq (show (0 : Int) ≤ (k : Int) + 1 by omega) (show (k : Int) + 1 ≤ 45 by omega)
      have hX : ((k : Int) + 1) * ((k : Int) + 1) ≤ 2025 := by omega
      have HE := Lib.hid (inL_eq (d := d) hkn hlt')
      clear hX0 hlt
      go_wp2
      go_ret
      refine ⟨_, rfl, ?_, hb.out⟩
      rw [HE.out]
      exact hr.out
theorem specIno_any (d n : Int) (w : World) (hd : I64 d) :
    Calls Try.prog 14 #[.int .i64 d, .int .i64 n] w fun en w' => ∃ v, en = .returned (.tuple #[v, .bool (fnB d && decide (1 ≤ n ∧ n ≤ 2000))]) ∧ Rw w.heap.size 34 3 c3 w' v (inR d n) ∧ Below w.heap.size w w' := by
  by_cases cn : 1 ≤ n ∧ n ≤ 2000
  · have hin : inB n 1 2000 = true := by unfold inB; exact decide_eq_true cn
    cases c : fnB d with
    | true =>
      obtain ⟨m1, m2, _⟩ := negB_true (fnB_neg c)
      have HR : Hid (inR d n = inL d n n.toNat) := by show _ = _; rw [inR, c, decide_eq_true cn]; rfl
      rw [HR.out, decide_eq_true cn]
      have cn1 := cn.1
      have cn2 := cn.2
      clear cn
      go_enter Try.func14, Try.ntmps14
      go_wp2_with (first | (go_at_call 35; refine (piDisc_any _ _ hd).mono ?_; rintro e w' ⟨rfl, rfl⟩) | (go_at_call 36; refine (l1In_any _ _ _ _).mono ?_; rintro e w' ⟨rfl, rfl⟩) | (go_at_call 37; refine (piAll_any d n _ m1 (by omega) cn1 cn2).mono ?_; rintro e w' ⟨v, rfl, hr, hB⟩))
      go_ret2
      exact ⟨_, rfl, hr, hB⟩
    | false =>
      have HR : Hid (inR d n = []) := by show _ = _; rw [inR, c, Bool.false_and, if_neg (by decide)]
      rw [HR.out, Bool.false_and]
      go_enter Try.func14, Try.ntmps14
      go_wp2_with (first | (go_at_call 35; refine (piDisc_any _ _ hd).mono ?_; rintro e w' ⟨rfl, rfl⟩) | (go_at_call 36; refine (l1In_any _ _ _ _).mono ?_; rintro e w' ⟨rfl, rfl⟩))
      go_ret2
      exact ⟨_, rfl, Rw.nil _ _ _ _ _, Below.refl _ _⟩
  · have hin : inB n 1 2000 = false := by unfold inB; exact decide_eq_false cn
    have HR : Hid (inR d n = []) := by show _ = _; rw [inR, decide_eq_false cn, Bool.and_false, if_neg (by decide)]
    rw [HR.out, decide_eq_false cn, Bool.and_false]
    cases c : fnB d
    all_goals
      go_enter Try.func14, Try.ntmps14
      go_wp2_with (first | (go_at_call 35; refine (piDisc_any _ _ hd).mono ?_; rintro e w' ⟨rfl, rfl⟩) | (go_at_call 36; refine (l1In_any _ _ _ _).mono ?_; rintro e w' ⟨rfl, rfl⟩))
      go_ret2
      exact ⟨_, rfl, Rw.nil _ _ _ _ _, Below.refl _ _⟩
set_option maxRecDepth 100000 in
set_option maxHeartbeats 4000000 in
theorem implIno_yes (d n : Int) (w : World) (hd : I64 d) (c : fnB d = true) (n1 : 1 ≤ n) (n2 : n ≤ 2000) :
    Calls Try.prog 15 #[.int .i64 d, .int .i64 n] w fun en w' => ∃ v, en = .returned (.tuple #[v, .bool true]) ∧ Rw w.heap.size 34 3 c3 w' v (inL d n n.toNat) ∧ Below w.heap.size w w' := by
  obtain ⟨d1, d2, _⟩ := negB_true (fnB_neg c)
  go_enter Try.func15, Try.ntmps15
  go_wp2_with (go_at_call 38; refine (isFundNeg_any _ _ hd).mono ?_; rintro e w' ⟨rfl, rfl⟩)
  go_loopw [6, 7] (fun v i wr => ∃ k : Nat, i = .int .i64 ((k : Int) + 1) ∧ (k : Int) * k ≤ n ∧ k ≤ 44 ∧ Hid (Rw w.heap.size 34 3 c3 wr v (inL d n k)) ∧ Hid (Below w.heap.size w wr)) (fun _ i _ => (n + 1 - intOf i).toNat)
  case atStart =>
    refine ⟨0, by go_num, by omega, by omega, ?_, ?_⟩
    · show Rw _ _ _ _ _ _ _
      exact Rw.empty (Nat.le_refl _)
    · show Below _ _ _
      repeat (first | with_reducible exact Below.refl _ _ | with_reducible assumption | ((with_reducible refine blA ?_ ?_); (focus (first | omega | (simp <;> omega)))) | (with_reducible refine blD ?_) | (with_reducible refine blN ?_) | ((with_reducible refine blS ?_ ?_); (focus (first | omega | (simp <;> omega)))) | ((with_reducible refine blT (by assumption) ?_ ?_); (focus (first | omega | (simp <;> omega)))))
  case round =>
    obtain ⟨k, rfl, hkn, hk1, hr, hb⟩ := hrel
    have hbz := hb.out.size
    obtain ⟨wr_, rfl⟩ : ∃ wr_ : World, wr_ = wr := ⟨_, rfl⟩
    have hself := self_le_sq k
    by_cases hlt : ((k : Int) + 1) * ((k : Int) + 1) ≤ n
    · have hself' : (k : Int) + 1 ≤ ((k : Int) + 1) * ((k : Int) + 1) := self_le_sq (k + 1)
      have hk2 : k + 1 ≤ 44 := by
        rcases Nat.lt_or_ge 44 (k + 1) with h | h
        · have := sq_le_sq (show (0 : Int) ≤ 45 by omega) (show (45 : Int) ≤ (k : Int) + 1 by omega)
          omega
        · exact h
      have hsq1 : (1 : Int) ≤ ((k : Int) + 1) * ((k : Int) + 1) := sq_ge
      have hlen0 := Lib.hid (inL_len (d := d) n1 n2 k)
      by_cases hd : n % (((k : Int) + 1) * ((k : Int) + 1)) = 0
      · have HN : Hid (inL d n (k + 1) = inL d n k ++ trp ((k : Int) + 1) (n / (((k : Int) + 1) * ((k : Int) + 1))) (rtA d (n / (((k : Int) + 1) * ((k : Int) + 1))))) := by show _ = _; rw [inL, if_pos ⟨hlt, hd⟩]
        have hA2 := Int.ediv_le_self (((k : Int) + 1) * ((k : Int) + 1)) (show 0 ≤ n by omega)
        have hA1 : 1 ≤ n / (((k : Int) + 1) * ((k : Int) + 1)) := by
          have h0 := Int.emod_add_mul_ediv n (((k : Int) + 1) * ((k : Int) + 1))
          rcases Int.lt_or_le 0 (n / (((k : Int) + 1) * ((k : Int) + 1))) with h | h
          · omega
          · have := Int.mul_nonpos_of_nonneg_of_nonpos (show 0 ≤ ((k : Int) + 1) * ((k : Int) + 1) by omega) h
            omega
        have HLR := Lib.hid (rtA_len (d := d) (n := n / (((k : Int) + 1) * ((k : Int) + 1))) (by omega))
        have hcall : Hid (∀ w0, Calls Try.prog 39 #[.int .i64 d, .int .i64 (n / (((k : Int) + 1) * ((k : Int) + 1)))] w0 fun en w' => ∃ v, en = .returned v ∧ Rw w0.heap.size 3 1 c1 w' v (rtA d (n / (((k : Int) + 1) * ((k : Int) + 1)))) ∧ Below w0.heap.size w0 w') := fun w0 => roots_any d _ w0 d1 (by omega) hA1 (by omega)
        obtain ⟨a, ha⟩ : ∃ a, n / (((k : Int) + 1) * ((k : Int) + 1)) = a := ⟨_, rfl⟩
        rw [ha] at HN hA1 hA2 HLR hcall
        obtain ⟨m, hm⟩ : ∃ m, (rtA d a).length = m := ⟨_, rfl⟩
        rw [hm] at HLR
        have HM := Lib.hid hm
        clear hm
        go_wp2_with fail
        refine (hcall.out _).mono ?_
        rintro e1 w1 ⟨vd, rfl, hrd, hB1⟩
        have hz1 := hB1.size
        obtain ⟨ad, kd, hvd, hkd, _, _⟩ := hrd.sees c1_len
        rw [HM.out] at hvd hkd
        subst hvd
        have hr1 : Rw w.heap.size 34 3 c3 w1 _ (inL d n k) := hr.out.later hB1
        have hap1 := hrd.lt
        have hap0 := hr.out.lt
        have HR1 := Lib.hid hr1
        have RD := Lib.hid hrd
        have HAP : Hid (Ap _ (.slice ad m kd)) := Lib.hid (fun g h1 h2 => by have q1 := (hap0 g h1).2; have q2 := (hap1 g h2).1; omega)
        have HB1 := Lib.hid (hb.out.trans (hB1.mono hbz))
        clear hrd hB1 hkd hr1 hap1 hap0
        go_wp2
        clear ha
        (try rw [hd])
        go_loopw [6, 46] (fun v i wr => ∃ j : Nat, i = .int .i64 (j : Int) ∧ j ≤ m ∧ Hid (Rw w.heap.size 34 3 c3 wr v (inL d n k ++ trp ((k : Int) + 1) a ((rtA d a).take j))) ∧ Hid (Rw wr_.heap.size 3 1 c1 wr (.slice ad m kd) (rtA d a)) ∧ Hid (Ap v (.slice ad m kd)) ∧ Hid (Below w.heap.size w wr)) (fun _ i _ => m - (intOf i).toNat)
        case atStart =>
          refine ⟨0, rfl, by omega, ?_, RD.out, HAP.out, HB1.out⟩
          show Rw _ _ _ _ _ _ _
          simpa [trp] using HR1.out
        case round =>
          obtain ⟨j, rfl, hjm, hr2, hrd, hap, hbb⟩ := hrel
          have hbz2 := hbb.out.size
          by_cases hjl : j < m
          · have hmb := HLR.out
            obtain ⟨x, hx⟩ := get_some HM.out hjl
            have HX : Hid ((rtA d a).take (j + 1) = (rtA d a).take j ++ [x]) := by show _ = _; rw [List.take_add_one, hx]; rfl
            have hcx : ∃ g, ad = some ⟨g, 0, none⟩ ∧ wr.cell? ⟨g, j, none⟩ = some (.int .i64 x) := by
              rcases (hrd.out.seen c1_len).1 with h0 | ⟨g, rfl, _, _, hcell, _⟩
              · have := HM.out; omega
              · exact ⟨g, rfl, by have := hcell j x hx 0 (by omega); simpa [c1] using this⟩
            obtain ⟨g, rfl, hcx⟩ := hcx
            have hlen : (inL d n k ++ trp ((k : Int) + 1) a ((rtA d a).take j)).length ≤ 1000000 := by
              have h1 := hlen0.out
              have h2 := HLR.out
              have h3 := HM.out
              rw [List.length_append, trp_len, List.length_take]; omega
            clear hx
            go_wp2_with (at_builtin; go_loud (refine app_ideal (hr2.out.alloc _) (by rfl) _ _ _ (by rfl) (by kernel_rfl) (by rfl) _ ((k : Int) + 1, a, x) (by rfl) (heap_alloc_new _ _) hlen (by simp; omega) ?_))
            intro v1' w2 hr1' hg1 hat1
            have hrd' : Rw wr_.heap.size 3 1 c1 w2 _ (rtA d a) := ((hrd.out.alloc _).apart hg1 hap.out.nel)
            have hap1 := hap.out.app hat1 (fun g hg => by have := (hrd.out.lt g hg).2; simp; omega)
            have hb1 : Below w.heap.size w w2 := below_of_grown (hbb.out.alloc hbb.out.size _) hg1 (by have := hbb.out.size; simp; omega) (fun g hg => (hr2.out.lt g hg).1)
            have HR2 := Lib.hid hr1'
            have HRD := Lib.hid hrd'
            have HA := Lib.hid hap1
            have HB := Lib.hid hb1
            clear hr1' hrd' hap1 hb1 hg1 hat1 hlen
            go_wp2
            go_roundw
            case rel =>
              go_light
              refine ⟨j + 1, by go_num, by omega, ?_, HRD.out, HA.out, HB.out⟩
              show Rw _ _ _ _ _ _ _
              rw [HX.out, trp_snoc]
              exact HR2.out
            case measure => simp [intOf]; omega
          · have HE2 : Hid ((rtA d a).take j = rtA d a) := by show _ = _; rw [List.take_of_length_le]; rw [HM.out]; omega
            go_wp2
            go_roundw
            case rel =>
              go_light
              refine ⟨k + 1, by go_num, by rw [show ((k + 1 : Nat) : Int) = (k : Int) + 1 by omega]; exact hlt, hk2, ?_, hbb.out⟩
              show Rw _ _ _ _ _ _ _
              rw [HN.out, ← HE2.out]
              exact hr2.out
            case measure => simp [intOf]; omega
      · have HN : Hid (inL d n (k + 1) = inL d n k) := by show _ = _; rw [inL, if_neg (fun h => hd h.2)]
        have hz : (n % (((k : Int) + 1) * ((k : Int) + 1)) == 0) = false := by simp [hd]
        clear hd
        go_wp2
        go_roundw
        case rel =>
          go_light
          refine ⟨k + 1, by go_num, by rw [show ((k + 1 : Nat) : Int) = (k : Int) + 1 by omega]; exact hlt, hk2, ?_, hb.out⟩
          show Rw _ _ _ _ _ _ _
          rw [HN.out]; exact hr.out
        case measure => simp [intOf]; omega
    · have hlt' : n < ((k : Int) + 1) * ((k : Int) + 1) := Int.not_le.1 hlt
      have hX0 := sq_le_sq (show (0 : Int) ≤ (k : Int) + 1 by omega) (show (k : Int) + 1 ≤ 45 by omega)
      have hX : ((k : Int) + 1) * ((k : Int) + 1) ≤ 2025 := by omega
      have HE := Lib.hid (inL_eq (d := d) hkn hlt')
      clear hX0 hlt
      go_wp2
      go_ret2
      refine ⟨_, rfl, ?_, hb.out⟩
      rw [HE.out]
      exact hr.out
theorem implIno_any (d n : Int) (w : World) (hd : I64 d) :
    Calls Try.prog 15 #[.int .i64 d, .int .i64 n] w fun en w' => ∃ v, en = .returned (.tuple #[v, .bool (fnB d && decide (1 ≤ n ∧ n ≤ 2000))]) ∧ Rw w.heap.size 34 3 c3 w' v (inR d n) ∧ Below w.heap.size w w' := by
  by_cases cn : 1 ≤ n ∧ n ≤ 2000
  · cases c : fnB d with
    | true =>
      have HR : Hid (inR d n = inL d n n.toNat) := by show _ = _; rw [inR, c, decide_eq_true cn]; rfl
      rw [HR.out, decide_eq_true cn]
      exact implIno_yes d n w hd c cn.1 cn.2
    | false =>
      have HR : Hid (inR d n = []) := by show _ = _; rw [inR, c, Bool.false_and, if_neg (by decide)]
      rw [HR.out, Bool.false_and]
      go_enter Try.func15, Try.ntmps15
      go_wp2_with (go_at_call 38; refine (isFundNeg_any _ _ hd).mono ?_; rintro e w' ⟨rfl, rfl⟩)
      go_ret2
      exact ⟨_, rfl, Rw.empty (Nat.le_refl _), (Below.refl _ _).alloc (Nat.le_refl _) _⟩
  · have HR : Hid (inR d n = []) := by show _ = _; rw [inR, decide_eq_false cn, Bool.and_false, if_neg (by decide)]
    rw [HR.out, decide_eq_false cn, Bool.and_false]
    rcases (show n < 1 ∨ (1 ≤ n ∧ 2000 < n) by omega) with h | ⟨h, h'⟩
    all_goals
      clear cn
      cases c : fnB d
      all_goals
        go_enter Try.func15, Try.ntmps15
        go_wp2_with (go_at_call 38; refine (isFundNeg_any _ _ hd).mono ?_; rintro e w' ⟨rfl, rfl⟩)
        go_ret2
        exact ⟨_, rfl, Rw.empty (Nat.le_refl _), (Below.refl _ _).alloc (Nat.le_refl _) _⟩
set_option maxRecDepth 100000 in
set_option maxHeartbeats 4000000 in
theorem law_idealsOfNorm (d n : Int) (w : World) (hd : I64 d) (_ : I64 n) :
    Calls Try.prog 4 #[.int .i64 d, .int .i64 n] w fun en w' => en = .returned (.bool true) ∧ Below w.heap.size w w' := by
  have hlen : (inR d n).length ≤ 1100000 := inR_len d n
  obtain ⟨n', hn'⟩ : ∃ n', (inR d n).length = n' := ⟨_, rfl⟩
  rw [hn'] at hlen
  have HN := Lib.hid hn'
  clear hn'
  go_enter Try.func4, Try.ntmps4
  go_wp2_with fail
  refine (specIno_any d n _ hd).mono ?_
  rintro e1 w1 ⟨v0, rfl, hr0, hB1⟩
  have hz1 := hB1.size
  obtain ⟨a0, k0, hv0, hk0, _, hs0⟩ := hr0.sees c3_len
  rw [HN.out] at hv0 hk0
  subst hv0
  clear hk0
  have R0 := Lib.hid hr0
  have S0 := Lib.hid hs0
  have B1 := Lib.hid hB1
  clear hr0 hs0 hB1
  go_wp2_with fail
  refine (implIno_any d n _ hd).mono ?_
  rintro e2 w2 ⟨v1, rfl, hr1, hB2⟩
  have hz2 := hB2.size
  obtain ⟨a1, k1, hv1, hk1, _, hs1⟩ := hr1.sees c3_len
  rw [HN.out] at hv1 hk1
  subst hv1
  clear hk1
  have R1 := Lib.hid hr1
  have S1 := Lib.hid hs1
  have B2 := Lib.hid hB2
  clear hr1 hs1 hB2
  go_wp2_with fail
  refine (eqIdealS_same _ _ _ _ _ _ _ _ _ HN.out S1.out (S0.out.below B2.out) hlen).mono ?_
  rintro e3 w3 ⟨rfl, hB3⟩
  have hz3 := hB3.size
  have B3 := Lib.hid hB3
  clear hB3
  go_wp2_with fail
  refine (markIdealS_any w1.heap.size n' _ _ 1 _ HN.out (R1.out.later B3.out) hlen (by omega) (by omega)).mono ?_
  rintro e4 w4 ⟨rfl, hM, hg4⟩
  have hz4 := hg4.size
  have hap : (Value.slice a0 n' k0).ownBlock = none ∨ (Value.slice a0 n' k0).ownBlock ≠ (Value.slice a1 n' k1).ownBlock := by
    cases h0 : (Value.slice a0 n' k0).ownBlock with
    | none => exact .inl rfl
    | some g =>
      right
      intro h1
      have q1 := (R0.out.lt g h0).2
      have q2 := (R1.out.lt g h1.symm).1
      omega
  have hr04 : Rw w.heap.size 34 3 c3 w4 (.slice a0 n' k0) (inR d n) := ((R0.out.later B2.out).later B3.out).apart hg4 hap
  have hB4 : Below w.heap.size w w4 := below_of_grown (B1.out.trans ((B2.out.mono hz1).trans (B3.out.mono (by omega)))) hg4 (by omega) (fun g hg => by have := (R1.out.lt g hg).1; omega)
  obtain ⟨am, km, hem, hms⟩ := hM.sees
  simp only [Value.slice.injEq] at hem
  obtain ⟨rfl, -, rfl⟩ := hem
  have R04 := Lib.hid hr04
  have B4 := Lib.hid hB4
  have M4 := Lib.hid hM
  have N4 := Lib.hid hms
  clear hr04 hB4 hM hms hg4 hap
  go_wp2_with fail
  refine (heldIdealS_any n' _ _ 1 _ N4.out hlen (by omega) (by omega)).mono ?_
  rintro e5 w5 ⟨rfl, hB5⟩
  have hz5 := hB5.size
  have B5 := Lib.hid hB5
  clear hB5
  go_wp2_with fail
  refine (implIno_any d n _ hd).mono ?_
  rintro e6 w6 ⟨v2, rfl, hr2, hB6⟩
  have hz6 := hB6.size
  obtain ⟨a2, k2, hv2, hk2, _, hs2⟩ := hr2.sees c3_len
  rw [HN.out] at hv2 hk2
  subst hv2
  clear hk2
  have R2 := Lib.hid hr2
  have S2 := Lib.hid hs2
  have B6 := Lib.hid hB6
  clear hr2 hs2 hB6
  go_wp2_with fail
  refine (eqIdealS_same _ _ _ _ _ _ _ _ _ HN.out S2.out (((R04.out.seen c3_len).1.below B5.out).below B6.out) hlen).mono ?_
  rintro e7 w7 ⟨rfl, hB7⟩
  have hz7 := hB7.size
  have B7 := Lib.hid hB7
  clear hB7
  go_wp2_with fail
  refine (heldIdealS_any n' _ _ 1 _ (((N4.out.below B5.out).below B6.out).below B7.out) hlen (by omega) (by omega)).mono ?_
  rintro e8 w8 ⟨rfl, hB8⟩
  have hz8 := hB8.size
  have B8 := Lib.hid hB8
  clear hB8
  go_wp2
  go_ret
  refine ⟨rfl, ?_⟩
  exact B4.out.trans ((B5.out.mono (by omega)).trans ((B6.out.mono (by omega)).trans ((B7.out.mono (by omega)).trans (B8.out.mono (by omega)))))
theorem specCount_any (d n : Int) (w : World) (hd : I64 d) : Calls Try.prog 12 #[.int .i64 d, .int .i64 n] w fun en w' => en = .returned (.tuple #[.int .i64 ((inR d n).length : Int), .bool (fnB d && decide (1 ≤ n ∧ n ≤ 2000))]) ∧ Below w.heap.size w w' := by
  by_cases cn : 1 ≤ n ∧ n ≤ 2000
  · have hin : inB n 1 2000 = true := by unfold inB; exact decide_eq_true cn
    cases c : fnB d with
    | true =>
      obtain ⟨m1, m2, _⟩ := negB_true (fnB_neg c)
      have HR : Hid (inR d n = inL d n n.toNat) := by show _ = _; rw [inR, c, decide_eq_true cn]; rfl
      have hcall : Hid (∀ w0, Calls Try.prog 37 #[.int .i64 d, .int .i64 n] w0 fun en w' => ∃ a cap, en = .returned (.slice a (inR d n).length cap) ∧ Below w0.heap.size w0 w') := by
        show ∀ w0, _
        intro w0
        refine (piAll_any d n w0 m1 (by omega) cn.1 cn.2).mono ?_
        rintro e w' ⟨v, rfl, hr, hB⟩
        obtain ⟨a, cap, rfl, _⟩ := hr.sees c3_len
        exact ⟨a, cap, by rw [HR.out], hB⟩
      rw [decide_eq_true cn]
      generalize (inR d n).length = m at *
      have cn1 := cn.1
      have cn2 := cn.2
      clear cn
      go_enter Try.func12, Try.ntmps12
      go_wp2_with (first | (go_at_call 35; refine (piDisc_any _ _ hd).mono ?_; rintro e w' ⟨rfl, rfl⟩) | (go_at_call 36; refine (l1In_any _ _ _ _).mono ?_; rintro e w' ⟨rfl, rfl⟩) | (go_at_call 37; refine (hcall.out _).mono ?_; rintro e w' ⟨a, cap, rfl, hB⟩))
      go_ret2
      exact ⟨rfl, hB⟩
    | false =>
      have HR : Hid (inR d n = []) := by show _ = _; rw [inR, c, Bool.false_and, if_neg (by decide)]
      rw [HR.out, Bool.false_and]
      go_enter Try.func12, Try.ntmps12
      go_wp2_with (first | (go_at_call 35; refine (piDisc_any _ _ hd).mono ?_; rintro e w' ⟨rfl, rfl⟩) | (go_at_call 36; refine (l1In_any _ _ _ _).mono ?_; rintro e w' ⟨rfl, rfl⟩))
      go_ret2
      exact ⟨rfl, Below.refl _ _⟩
  · have hin : inB n 1 2000 = false := by unfold inB; exact decide_eq_false cn
    have HR : Hid (inR d n = []) := by show _ = _; rw [inR, decide_eq_false cn, Bool.and_false, if_neg (by decide)]
    rw [HR.out, decide_eq_false cn, Bool.and_false]
    cases c : fnB d
    all_goals
      go_enter Try.func12, Try.ntmps12
      go_wp2_with (first | (go_at_call 35; refine (piDisc_any _ _ hd).mono ?_; rintro e w' ⟨rfl, rfl⟩) | (go_at_call 36; refine (l1In_any _ _ _ _).mono ?_; rintro e w' ⟨rfl, rfl⟩))
      go_ret2
      exact ⟨rfl, Below.refl _ _⟩
theorem implCount_any (d n : Int) (w : World) (hd : I64 d) : Calls Try.prog 13 #[.int .i64 d, .int .i64 n] w fun en w' => en = .returned (.tuple #[.int .i64 ((inR d n).length : Int), .bool (fnB d && decide (1 ≤ n ∧ n ≤ 2000))]) ∧ Below w.heap.size w w' := by
  have hcall : Hid (∀ w0, Calls Try.prog 15 #[.int .i64 d, .int .i64 n] w0 fun en w' => ∃ a cap, en = .returned (.tuple #[.slice a (inR d n).length cap, .bool (fnB d && decide (1 ≤ n ∧ n ≤ 2000))]) ∧ Below w0.heap.size w0 w') := by
    show ∀ w0, _
    intro w0
    refine (implIno_any d n w0 hd).mono ?_
    rintro e w' ⟨v, rfl, hr, hB⟩
    obtain ⟨a, cap, rfl, _⟩ := hr.sees c3_len
    exact ⟨a, cap, rfl, hB⟩
  generalize (inR d n).length = m at *
  generalize (fnB d && decide (1 ≤ n ∧ n ≤ 2000)) = q at *
  go_enter Try.func13, Try.ntmps13
  go_wp2_with (go_at_call 15; refine (hcall.out _).mono ?_; rintro e w' ⟨a, cap, rfl, hB⟩)
  go_ret2
  exact ⟨rfl, hB⟩
theorem law_countIdeals (d n : Int) (w : World) (hd : I64 d) (_ : I64 n) : Calls Try.prog 3 #[.int .i64 d, .int .i64 n] w fun en w' => en = .returned (.bool true) ∧ Below w.heap.size w w' := by
  go_enter Try.func3, Try.ntmps3
  go_wp2_with (first | (go_at_call 13; refine (implCount_any _ _ _ hd).mono ?_; rintro e w' ⟨rfl, hB⟩; obtain ⟨hC, hF⟩ := bcell hB; have hS := hB.size; (try simp at hS); (try have hSl := Nat.lt_of_succ_le hS); (try have hS0 : w.heap.size < w'.heap.size := by omega); (try have hS1 : w.heap.size + 1 < w'.heap.size := by omega); (try have hS2 : w.heap.size + 1 + 1 < w'.heap.size := by omega); (try have hS3 : w.heap.size + 1 + 1 + 1 < w'.heap.size := by omega)) | (go_at_call 12; refine (specCount_any _ _ _ hd).mono ?_; rintro e w' ⟨rfl, hB⟩; obtain ⟨hC, hF⟩ := bcell hB; have hS := hB.size; (try simp at hS); (try have hSl := Nat.lt_of_succ_le hS); (try have hS0 : w.heap.size < w'.heap.size := by omega); (try have hS1 : w.heap.size + 1 < w'.heap.size := by omega); (try have hS2 : w.heap.size + 1 + 1 < w'.heap.size := by omega); (try have hS3 : w.heap.size + 1 + 1 + 1 < w'.heap.size := by omega)))
  go_ret
  refine ⟨rfl, ?_⟩
  repeat (first | with_reducible exact Below.refl _ _ | with_reducible assumption | ((with_reducible refine blA ?_ ?_); (focus (first | omega | (simp <;> omega)))) | (with_reducible refine blD ?_) | (with_reducible refine blN ?_) | ((with_reducible refine blS ?_ ?_); (focus (first | omega | (simp <;> omega)))) | ((with_reducible refine blT (by assumption) ?_ ?_); (focus (first | omega | (simp <;> omega)))))
end Go.Proofs.Ytladcjoiaoaedaa
