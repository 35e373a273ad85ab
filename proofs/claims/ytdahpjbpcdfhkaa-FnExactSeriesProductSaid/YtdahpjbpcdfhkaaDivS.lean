/-
  DivisorSide: both ways. Printed by mkdivs.py.
-/
import Derived.Test.YtdahpjbpcdfhkaaDiv
namespace Go.Proofs.Ytdahpjbpcdfhkaa
open Go.RowKit
attribute [local simp, local go_sem] past_cell past_frozen past_tape
def dsF (n e : Int) : Int := 2 * e - (if e < n / e then e else n / e)
def dsS (n : Int) (l : List Int) : Int := l.foldl (fun s e => s + dsF n e) 0
theorem dsF_bd {n e : Int} (hn : 1 ≤ n) (hn2 : n ≤ 500) (h1 : 1 ≤ e) (h2 : e ≤ n) : 0 ≤ dsF n e ∧ dsF n e ≤ 1000 ∧ 0 ≤ n / e ∧ n / e ≤ n := by
  have h3 := Int.ediv_nonneg (show 0 ≤ n by omega) (show 0 ≤ e by omega)
  have h4 := Int.ediv_le_self e (show 0 ≤ n by omega)
  unfold dsF
  split <;> refine ⟨?_, ?_, ?_, ?_⟩ <;> omega
theorem dsS_snoc (n x : Int) (l : List Int) : dsS n (l ++ [x]) = dsS n l + dsF n x := by simp [dsS]
theorem dsS_bd {n : Int} (hn : 1 ≤ n) (hn2 : n ≤ 500) (k : Nat) : 0 ≤ dsS n ((divL n).take k) ∧ dsS n ((divL n).take k) ≤ 1000 * k := by
  induction k with
  | zero => simp [dsS]
  | succ k ih =>
    rw [List.take_add_one]
    cases h : (divL n)[k]? with
    | none => simp; omega
    | some x =>
      obtain ⟨h1, h2, _⟩ := mem_divL hn (List.mem_of_getElem? h)
      have := dsF_bd hn hn2 h1 h2
      rw [Option.toList_some, dsS_snoc]
      omega
theorem take_snoc_of {l : List Int} {k : Nat} {x : Int} (h : l[k]? = some x) : l.take (k + 1) = l.take k ++ [x] := by
  rw [List.take_add_one, h]
  simp
def dsR (n : Int) : Int := if 1 ≤ n ∧ n ≤ 500 then 12 * dsS n (divL n) else 0
theorem divL_len {n : Int} (h : 1 ≤ n) (h2 : n ≤ 1000) : (divL n).length ≤ 2000 := by
  have h1 := lowD_len n n.toNat
  have h2 := highD_len n n.toNat
  unfold divL
  simp
  omega
theorem isRelation_any (n : Int) (w : World) : Calls Try.prog 58 #[.int .i64 n] w fun en w' => en = .returned (.bool (decide (1 ≤ n ∧ n ≤ 500))) ∧ w = w' := by
  go_enter Try.func58, Try.ntmps58
  go_wp2
  all_goals
    go_ret
    refine ⟨ret_bool ?_, rfl⟩
    (first | (symm; apply decide_eq_true; omega) | (symm; apply decide_eq_false; omega) | (rw [decide_eq_decide]; omega) | (simp; omega) | (simp; intros; omega))
theorem l1Least_any (a b : Int) (w : World) : Calls Try.prog 57 #[.int .i64 a, .int .i64 b] w fun en w' => en = .returned (.int .i64 (if a < b then a else b)) ∧ w = w' := by
  by_cases c : a < b
  all_goals
    (first | rw [if_pos c] | rw [if_neg c])
    go_enter Try.func57, Try.ntmps57
    go_wp2
    go_ret
    exact ⟨rfl, rfl⟩
set_option maxRecDepth 100000 in
set_option maxHeartbeats 4000000 in
theorem implDivisorSide_any (n : Int) (w : World) : Calls Try.prog 30 #[.int .i64 n] w fun en w' => en = .returned (.tuple #[.int .i64 (dsR n), .bool (decide (1 ≤ n ∧ n ≤ 500))]) ∧ Below w.heap.size w w' := by
  by_cases c : 1 ≤ n ∧ n ≤ 500
  · obtain ⟨hn, hn2⟩ := c
    have HR : Hid (dsR n = 12 * dsS n (divL n)) := by show _ = _; rw [dsR, if_pos ⟨hn, hn2⟩]
    have HG : Hid (decide (1 ≤ n ∧ n ≤ 500) = true) := by show _ = _; rw [decide_eq_true ⟨hn, hn2⟩]
    have hg : decide (1 ≤ n ∧ n ≤ 500) = true := by exact HG.out
    have hDL := divL_len hn (by omega)
    have HB := Lib.hid (dsS_bd hn hn2)
    obtain ⟨m, hm⟩ : ∃ m, (divL n).length = m := ⟨_, rfl⟩
    rw [hm] at hDL
    have HM := Lib.hid hm
    clear hm
    rw [HR.out, HG.out]
    go_enter Try.func30, Try.ntmps30
    go_wp2_with (first | (go_at_call 58; refine (isRelation_any _ _).mono ?_; rintro e w' ⟨rfl, rfl⟩) | (go_at_call 36; fail))
    clear hg
    refine (divisors_any n _ (by omega) (by omega)).mono ?_
    rintro e1 w1 ⟨vd, rfl, hrd, hB1⟩
    have hz1 := hB1.size
    obtain ⟨ad, kd, hvd, hkd, _, hsd⟩ := hrd.sees c1_len
    rw [HM.out] at hvd hkd
    subst hvd
    clear hkd
    have SD := Lib.hid hsd
    have B1 := Lib.hid hB1
    clear hrd hB1 hsd
    go_wp2
    go_loop [4, 13] (fun v i => ∃ k : Nat, k ≤ m ∧ i = .int .i64 (k : Int) ∧ v = .int .i64 (dsS n ((divL n).take k))) (fun _ i => m - (intOf i).toNat)
    case atStart => exact ⟨0, by omega, rfl, rfl⟩
    case round =>
      obtain ⟨k, hk, rfl, rfl⟩ := hrel
      obtain ⟨b1, b2⟩ := HB.out k
      by_cases hkm : k < m
      · obtain ⟨x, hx⟩ := get_some HM.out hkm
        obtain ⟨x1, x2, _⟩ := mem_divL hn (List.mem_of_getElem? hx)
        obtain ⟨f1, f2, f3, f4⟩ := dsF_bd hn hn2 x1 x2
        have HX : Hid (dsS n ((divL n).take (k + 1)) = dsS n ((divL n).take k) + dsF n x) := by show _ = _; rw [take_snoc_of hx, dsS_snoc]
        have hcx : ∃ g, ad = some ⟨g, 0, none⟩ ∧ w1.cell? ⟨g, k, none⟩ = some (.int .i64 x) := by
          rcases SD.out with h0 | ⟨g, rfl, _, _, hcell, _⟩
          · have := HM.out; omega
          · exact ⟨g, rfl, by have := hcell k x hx 0 (by omega); simpa [c1] using this⟩
        obtain ⟨g, rfl, hcx⟩ := hcx
        clear hx
        generalize dsS n ((divL n).take k) = q at *
        by_cases hlt : x < n / x
        · have hf : dsF n x = 2 * x - x := by unfold dsF; rw [if_pos hlt]
          have HF := Lib.hid hf
          rw [hf] at f1 f2
          clear hf
          go_wp2
          go_round
          case rel =>
            go_light
            exact ⟨k + 1, by omega, by go_num, by rw [HX.out, HF.out]; try go_num⟩
          case measure => simp [intOf]; omega
        · have hf : dsF n x = 2 * x - n / x := by unfold dsF; rw [if_neg hlt]
          have HF := Lib.hid hf
          rw [hf] at f1 f2
          clear hf
          go_wp2
          go_round
          case rel =>
            go_light
            exact ⟨k + 1, by omega, by go_num, by rw [HX.out, HF.out]; try go_num⟩
          case measure => simp [intOf]; omega
      · have hk' : k = m := by omega
        subst hk'
        have HT : Hid ((divL n).take k = divL n) := by show _ = _; rw [List.take_of_length_le]; rw [HM.out]; exact Nat.le_refl _
        rw [HT.out] at b1 b2 ⊢
        go_wp2
        go_ret2
        exact ⟨rfl, B1.out⟩
  · have HR : Hid (dsR n = 0) := by show _ = _; rw [dsR, if_neg c]
    have HG : Hid (decide (1 ≤ n ∧ n ≤ 500) = false) := by show _ = _; rw [decide_eq_false c]
    have hg : decide (1 ≤ n ∧ n ≤ 500) = false := by exact HG.out
    rw [HR.out, HG.out]
    clear c
    go_enter Try.func30, Try.ntmps30
    go_wp2_with (go_at_call 58; refine (isRelation_any _ _).mono ?_; rintro e w' ⟨rfl, rfl⟩)
    go_ret2
    exact ⟨rfl, Below.refl _ _⟩
set_option maxRecDepth 100000 in
set_option maxHeartbeats 4000000 in
theorem specDivisorSide_any (n : Int) (w : World) : Calls Try.prog 29 #[.int .i64 n] w fun en w' => en = .returned (.tuple #[.int .i64 (dsR n), .bool (decide (1 ≤ n ∧ n ≤ 500))]) ∧ Below w.heap.size w w' := by
  by_cases c : 1 ≤ n ∧ n ≤ 500
  · obtain ⟨hn, hn2⟩ := c
    have HR : Hid (dsR n = 12 * dsS n (divL n)) := by show _ = _; rw [dsR, if_pos ⟨hn, hn2⟩]
    have HG : Hid (decide (1 ≤ n ∧ n ≤ 500) = true) := by show _ = _; rw [decide_eq_true ⟨hn, hn2⟩]
    have hg : inB n 1 500 = true := by unfold inB; exact HG.out
    have hDL := divL_len hn (by omega)
    have HB := Lib.hid (dsS_bd hn hn2)
    obtain ⟨m, hm⟩ : ∃ m, (divL n).length = m := ⟨_, rfl⟩
    rw [hm] at hDL
    have HM := Lib.hid hm
    clear hm
    rw [HR.out, HG.out]
    go_enter Try.func29, Try.ntmps29
    go_wp2_with (first | (go_at_call 56; refine (l1In_any _ _ _ _).mono ?_; rintro e w' ⟨rfl, rfl⟩) | (go_at_call 33; fail))
    clear hg
    refine (nuDivisors_any n _ (by omega) (by omega)).mono ?_
    rintro e1 w1 ⟨vd, rfl, hrd, hB1⟩
    have hz1 := hB1.size
    obtain ⟨ad, kd, hvd, hkd, _, hsd⟩ := hrd.sees c1_len
    rw [HM.out] at hvd hkd
    subst hvd
    clear hkd
    have SD := Lib.hid hsd
    have B1 := Lib.hid hB1
    clear hrd hB1 hsd
    go_wp2
    go_loop [4, 13] (fun v i => ∃ k : Nat, k ≤ m ∧ i = .int .i64 (k : Int) ∧ v = .int .i64 (dsS n ((divL n).take k))) (fun _ i => m - (intOf i).toNat)
    case atStart => exact ⟨0, by omega, rfl, rfl⟩
    case round =>
      obtain ⟨k, hk, rfl, rfl⟩ := hrel
      obtain ⟨b1, b2⟩ := HB.out k
      by_cases hkm : k < m
      · obtain ⟨x, hx⟩ := get_some HM.out hkm
        obtain ⟨x1, x2, _⟩ := mem_divL hn (List.mem_of_getElem? hx)
        obtain ⟨f1, f2, f3, f4⟩ := dsF_bd hn hn2 x1 x2
        have HX : Hid (dsS n ((divL n).take (k + 1)) = dsS n ((divL n).take k) + dsF n x) := by show _ = _; rw [take_snoc_of hx, dsS_snoc]
        have hcx : ∃ g, ad = some ⟨g, 0, none⟩ ∧ w1.cell? ⟨g, k, none⟩ = some (.int .i64 x) := by
          rcases SD.out with h0 | ⟨g, rfl, _, _, hcell, _⟩
          · have := HM.out; omega
          · exact ⟨g, rfl, by have := hcell k x hx 0 (by omega); simpa [c1] using this⟩
        obtain ⟨g, rfl, hcx⟩ := hcx
        clear hx
        generalize dsS n ((divL n).take k) = q at *
        by_cases hlt : x < n / x
        · have hf : dsF n x = 2 * x - x := by unfold dsF; rw [if_pos hlt]
          have HF := Lib.hid hf
          rw [hf] at f1 f2
          clear hf
          go_wp2_with (go_at_call 57; refine (l1Least_any _ _ _).mono ?_; rintro e w' ⟨rfl, rfl⟩)
          go_round
          case rel =>
            go_light
            exact ⟨k + 1, by omega, by go_num, by rw [HX.out, HF.out]; try go_num⟩
          case measure => simp [intOf]; omega
        · have hf : dsF n x = 2 * x - n / x := by unfold dsF; rw [if_neg hlt]
          have HF := Lib.hid hf
          rw [hf] at f1 f2
          clear hf
          go_wp2_with (go_at_call 57; refine (l1Least_any _ _ _).mono ?_; rintro e w' ⟨rfl, rfl⟩)
          go_round
          case rel =>
            go_light
            exact ⟨k + 1, by omega, by go_num, by rw [HX.out, HF.out]; try go_num⟩
          case measure => simp [intOf]; omega
      · have hk' : k = m := by omega
        subst hk'
        have HT : Hid ((divL n).take k = divL n) := by show _ = _; rw [List.take_of_length_le]; rw [HM.out]; exact Nat.le_refl _
        rw [HT.out] at b1 b2 ⊢
        go_wp2
        go_ret2
        exact ⟨rfl, B1.out⟩
  · have HR : Hid (dsR n = 0) := by show _ = _; rw [dsR, if_neg c]
    have HG : Hid (decide (1 ≤ n ∧ n ≤ 500) = false) := by show _ = _; rw [decide_eq_false c]
    have hg : inB n 1 500 = false := by unfold inB; exact HG.out
    rw [HR.out, HG.out]
    clear c
    go_enter Try.func29, Try.ntmps29
    go_wp2_with (go_at_call 56; refine (l1In_any _ _ _ _).mono ?_; rintro e w' ⟨rfl, rfl⟩)
    go_ret2
    exact ⟨rfl, Below.refl _ _⟩
theorem law_divisorSide (n : Int) (w : World) (_ : I64 n) : Calls Try.prog 10 #[.int .i64 n] w fun en w' => en = .returned (.bool true) ∧ Below w.heap.size w w' := by
  go_enter Try.func10, Try.ntmps10
  go_wp2_with (first | (go_at_call 30; refine (implDivisorSide_any _ _).mono ?_; rintro e w' ⟨rfl, hB⟩; obtain ⟨hC, hF⟩ := bcell hB; have hS := hB.size; (try simp at hS); (try have hSl := Nat.lt_of_succ_le hS); (try have hS0 : w.heap.size < w'.heap.size := by omega); (try have hS1 : w.heap.size + 1 < w'.heap.size := by omega); (try have hS2 : w.heap.size + 1 + 1 < w'.heap.size := by omega); (try have hS3 : w.heap.size + 1 + 1 + 1 < w'.heap.size := by omega)) | (go_at_call 29; refine (specDivisorSide_any _ _).mono ?_; rintro e w' ⟨rfl, hB⟩; obtain ⟨hC, hF⟩ := bcell hB; have hS := hB.size; (try simp at hS); (try have hSl := Nat.lt_of_succ_le hS); (try have hS0 : w.heap.size < w'.heap.size := by omega); (try have hS1 : w.heap.size + 1 < w'.heap.size := by omega); (try have hS2 : w.heap.size + 1 + 1 < w'.heap.size := by omega); (try have hS3 : w.heap.size + 1 + 1 + 1 < w'.heap.size := by omega)))
  go_ret
  refine ⟨rfl, ?_⟩
  repeat (first | with_reducible exact Below.refl _ _ | with_reducible assumption | ((with_reducible refine blA ?_ ?_); (focus (first | omega | (simp <;> omega)))) | (with_reducible refine blD ?_) | (with_reducible refine blN ?_) | ((with_reducible refine blS ?_ ?_); (focus (first | omega | (simp <;> omega)))) | ((with_reducible refine blT (by assumption) ?_ ?_); (focus (first | omega | (simp <;> omega)))))
end Go.Proofs.Ytdahpjbpcdfhkaa
