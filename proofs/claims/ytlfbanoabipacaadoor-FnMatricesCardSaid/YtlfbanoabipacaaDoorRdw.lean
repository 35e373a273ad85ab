/-
  How the reference reads numbers: the walks.
-/
import Derived.Test.YtlfbanoabipacaaDoorRdp
import Derived.Test.YtlfbanoabipacaaDoorCtx
namespace Go.Proofs.YtlfbanoabipacaaDoor
open Go.RowKit
attribute [local simp, local go_sem] past_cell past_frozen past_tape
theorem at_get {s : ByteArray} {k : Nat} (h : k < s.size) : s.data.toList[k]? = some (s[k]'h) := by
  rw [Array.getElem?_toList]
  exact Array.getElem?_eq_getElem h
theorem rdIn_of {n lo hi : Int} (h : lo ≤ n ∧ n ≤ hi) : inB n lo hi = true := decide_eq_true h
theorem rdIn_not {n lo hi : Int} (h : ¬ (lo ≤ n ∧ n ≤ hi)) : inB n lo hi = false := decide_eq_false h
theorem len_size (s : ByteArray) : s.data.toList.length = s.size := by simp
set_option maxRecDepth 100000 in
set_option maxHeartbeats 2000000 in
theorem nuRead_any (s : ByteArray) (w : World) (hs : s.size ≤ 1048576) : Calls Tryd.prog 73 #[.string s] w fun en w' => en = .returned (.int .i64 (nrV s.data.toList)) ∧ w = w' := by
  have hn := len_size s
  by_cases c1 : 1 ≤ s.size ∧ s.size ≤ 10
  · have hin : inB (s.size : Int) 1 10 = true := rdIn_of (by omega)
    have h0 : 0 < s.size := by omega
    obtain ⟨c0, hc0⟩ : ∃ c, s[0]'h0 = c := ⟨_, rfl⟩
    have hhd : s.data.toList.head? = some c0 := by
      rw [List.head?_eq_getElem?, at_get h0, hc0]
    by_cases c2 : c0.toNat = 48 ∧ 1 < s.size
    · have HR : Hid (nrV s.data.toList = -1) := by
        show _ = _
        unfold nrV
        have h48 : c0 = 48 := by
          have := uint_of c0
          rw [c2.1] at this
          exact this.symm
        rw [if_neg (fun h => h.2.1 ⟨by rw [hhd, h48], by rw [hn]; exact c2.2⟩)]
      rw [HR.out]
      obtain ⟨c21, c22⟩ := c2
      clear HR c1
      go_enter Tryd.func73, Tryd.ntmps73
      go_wp2_with (first | (go_at_call 72; refine (l1In_any _ _ _ _).mono ?_; rintro e w' ⟨rfl, rfl⟩))
      go_ret
      exact ⟨rfl, rfl⟩
    · have hz : ¬ (s.data.toList.head? = some 48 ∧ 1 < s.data.toList.length) := by
        rintro ⟨h1, h2⟩
        rw [hhd] at h1
        have : c0 = 48 := by simpa using h1
        rw [hn] at h2
        exact c2 ⟨by rw [this]; rfl, h2⟩
      have HV : Hid (s.data.toList.all isD = true → nrV s.data.toList = dv s.data.toList) := by
        show _ → _
        intro h
        unfold nrV
        rw [if_pos ⟨by rw [hn]; exact c1, hz, h⟩]
      have HF : Hid (s.data.toList.all isD = false → nrV s.data.toList = -1) := by
        show _ → _
        intro h
        unfold nrV
        rw [if_neg (fun h' => by rw [h] at h'; exact absurd h'.2.2 (by decide))]
      have HN := Lib.hid hn
      obtain ⟨c11, c12⟩ := c1
      have hpart : (c0.toNat = 48 ∧ s.size = 1) ∨ ¬ c0.toNat = 48 := by omega
      have goal : ∀ (h48 : ¬ c0.toNat = 48 ∨ (c0.toNat = 48 ∧ s.size = 1)), True := fun _ => trivial
      clear hz hn c2 goal
      rcases hpart with ⟨p1, p2⟩ | p1
      · have c22 : ¬ (1 : Int) < (s.size : Int) := by omega
        go_enter Tryd.func73, Tryd.ntmps73
        go_wp2_with (first | (go_at_call 72; refine (l1In_any _ _ _ _).mono ?_; rintro e w' ⟨rfl, rfl⟩))
        go_loop [3, 4] (fun x y => ∃ k : Nat, x = .int .i64 (dv (s.data.toList.take k) : Int) ∧ y = .int .i64 (k : Int) ∧ k ≤ s.size ∧ Hid ((s.data.toList.take k).all isD = true)) (fun _ y => s.size - (intOf y).toNat)
        case atStart => exact ⟨0, rfl, rfl, by omega, by show _ = _; rfl⟩
        case round =>
          obtain ⟨k, rfl, rfl, hk, hall⟩ := hrel
          have hb := dv_bd _ hall.out
          have hb2 : 10 ^ (s.data.toList.take k).length ≤ 10 ^ 10 := Nat.pow_le_pow_right (by omega) (by rw [List.length_take]; omega)
          by_cases hlt : k < s.size
          · obtain ⟨c, hc⟩ : ∃ c, s[k]'hlt = c := ⟨_, rfl⟩
            have HT : Hid (s.data.toList.take (k + 1) = s.data.toList.take k ++ [c]) := by show _ = _; rw [List.take_add_one, at_get hlt, hc]; rfl
            have hmem : c ∈ s.data.toList := by
              have := at_get hlt
              rw [hc] at this
              exact List.mem_of_getElem? this
            have hcl := c.toNat_lt
            have hD : dv (s.data.toList.take k) ≤ 999999999 := by
              have h9 : 10 ^ (s.data.toList.take k).length ≤ 10 ^ 9 := Nat.pow_le_pow_right (by omega) (by rw [List.length_take]; omega)
              have e9 : 10 ^ 9 = 1000000000 := by decide
              omega
            have HD := Lib.hid (dv_snoc (s.data.toList.take k) c)
            clear hb2 hb
            generalize dv (s.data.toList.take k) = D at *
            by_cases c3 : c.toNat < 48
            · have HR : Hid (nrV s.data.toList = -1) := Lib.hid (HF.out (by rw [List.all_eq_false]; exact ⟨c, hmem, by unfold isD; simp; omega⟩))
              go_wp2
              go_ret
              exact ⟨ret_int HR.out.symm, rfl⟩
            · by_cases c4 : 57 < c.toNat
              · have HR : Hid (nrV s.data.toList = -1) := Lib.hid (HF.out (by rw [List.all_eq_false]; exact ⟨c, hmem, by unfold isD; simp; omega⟩))
                go_wp2
                go_ret
                exact ⟨ret_int HR.out.symm, rfl⟩
              · have hcD : isD c = true := decide_eq_true ⟨by omega, by omega⟩
                go_wp2
                go_round
                case rel =>
                  go_light
                  refine ⟨k + 1, ?_, by go_num, by omega, ?_⟩
                  · rw [HT.out, HD.out]
                    go_num
                  · show _ = _
                    rw [HT.out, List.all_append, hall.out]
                    simp [hcD]
                case measure => simp [intOf]; omega
          · have hks : k = s.size := by omega
            subst hks
            have HT : Hid (s.data.toList.take s.size = s.data.toList) := Lib.hid (List.take_of_length_le (by rw [HN.out]; exact Nat.le_refl _))
            have HR := Lib.hid (HV.out (by rw [← HT.out]; exact hall.out))
            rw [HT.out] at *
            clear hb2
            go_wp2
            go_ret
            exact ⟨ret_int HR.out.symm, rfl⟩
      · go_enter Tryd.func73, Tryd.ntmps73
        go_wp2_with (first | (go_at_call 72; refine (l1In_any _ _ _ _).mono ?_; rintro e w' ⟨rfl, rfl⟩))
        go_loop [3, 4] (fun x y => ∃ k : Nat, x = .int .i64 (dv (s.data.toList.take k) : Int) ∧ y = .int .i64 (k : Int) ∧ k ≤ s.size ∧ Hid ((s.data.toList.take k).all isD = true)) (fun _ y => s.size - (intOf y).toNat)
        case atStart => exact ⟨0, rfl, rfl, by omega, by show _ = _; rfl⟩
        case round =>
          obtain ⟨k, rfl, rfl, hk, hall⟩ := hrel
          have hb := dv_bd _ hall.out
          have hb2 : 10 ^ (s.data.toList.take k).length ≤ 10 ^ 10 := Nat.pow_le_pow_right (by omega) (by rw [List.length_take]; omega)
          by_cases hlt : k < s.size
          · obtain ⟨c, hc⟩ : ∃ c, s[k]'hlt = c := ⟨_, rfl⟩
            have HT : Hid (s.data.toList.take (k + 1) = s.data.toList.take k ++ [c]) := by show _ = _; rw [List.take_add_one, at_get hlt, hc]; rfl
            have hmem : c ∈ s.data.toList := by
              have := at_get hlt
              rw [hc] at this
              exact List.mem_of_getElem? this
            have hcl := c.toNat_lt
            have hD : dv (s.data.toList.take k) ≤ 999999999 := by
              have h9 : 10 ^ (s.data.toList.take k).length ≤ 10 ^ 9 := Nat.pow_le_pow_right (by omega) (by rw [List.length_take]; omega)
              have e9 : 10 ^ 9 = 1000000000 := by decide
              omega
            have HD := Lib.hid (dv_snoc (s.data.toList.take k) c)
            clear hb2 hb
            generalize dv (s.data.toList.take k) = D at *
            by_cases c3 : c.toNat < 48
            · have HR : Hid (nrV s.data.toList = -1) := Lib.hid (HF.out (by rw [List.all_eq_false]; exact ⟨c, hmem, by unfold isD; simp; omega⟩))
              go_wp2
              go_ret
              exact ⟨ret_int HR.out.symm, rfl⟩
            · by_cases c4 : 57 < c.toNat
              · have HR : Hid (nrV s.data.toList = -1) := Lib.hid (HF.out (by rw [List.all_eq_false]; exact ⟨c, hmem, by unfold isD; simp; omega⟩))
                go_wp2
                go_ret
                exact ⟨ret_int HR.out.symm, rfl⟩
              · have hcD : isD c = true := decide_eq_true ⟨by omega, by omega⟩
                go_wp2
                go_round
                case rel =>
                  go_light
                  refine ⟨k + 1, ?_, by go_num, by omega, ?_⟩
                  · rw [HT.out, HD.out]
                    go_num
                  · show _ = _
                    rw [HT.out, List.all_append, hall.out]
                    simp [hcD]
                case measure => simp [intOf]; omega
          · have hks : k = s.size := by omega
            subst hks
            have HT : Hid (s.data.toList.take s.size = s.data.toList) := Lib.hid (List.take_of_length_le (by rw [HN.out]; exact Nat.le_refl _))
            have HR := Lib.hid (HV.out (by rw [← HT.out]; exact hall.out))
            rw [HT.out] at *
            clear hb2
            go_wp2
            go_ret
            exact ⟨ret_int HR.out.symm, rfl⟩
  · have HR : Hid (nrV s.data.toList = -1) := by show _ = _; unfold nrV; rw [if_neg (by rw [hn]; exact fun h => c1 h.1)]
    have hin : inB (s.size : Int) 1 10 = false := rdIn_not (by omega)
    rw [HR.out]
    clear HR c1
    go_enter Tryd.func73, Tryd.ntmps73
    go_wp2_with (first | (go_at_call 72; refine (l1In_any _ _ _ _).mono ?_; rintro e w' ⟨rfl, rfl⟩))
    go_ret
    exact ⟨rfl, rfl⟩
theorem ext_drop (s : ByteArray) (a : Nat) : (s.extract a s.size).data.toList = s.data.toList.drop a := by
  rw [ByteArray.data_extract, Array.toList_extract]
  simp [List.extract]
  exact List.take_of_length_le (by rw [List.length_drop, len_size]; exact Nat.le_refl _)
theorem ext_mid (s : ByteArray) (a b : Nat) : (s.extract a b).data.toList = (s.data.toList.drop a).take (b - a) := by
  rw [ByteArray.data_extract, Array.toList_extract]
theorem ext_size (s : ByteArray) (a b : Nat) : (s.extract a b).size ≤ s.size := by
  have h1 := len_size (s.extract a b)
  have h2 := len_size s
  rw [ext_mid, List.length_take, List.length_drop] at h1
  omega
def foV (l : List UInt8) : Int := (foI l).getD 0
theorem foI_isSome (l : List UInt8) : (foI l).isSome = foK l := by
  unfold foI
  split
  · rename_i h; rw [h]; rfl
  · rename_i h; simp at h; rw [h]; rfl
set_option maxRecDepth 100000 in
set_option maxHeartbeats 2000000 in
theorem foInt_any (s : ByteArray) (w : World) (hs : s.size ≤ 1048576) : Calls Tryd.prog 57 #[.string s] w fun en w' => en = .returned (.tuple #[.int .i64 (foV s.data.toList), .bool (foK s.data.toList)]) ∧ w = w' := by
  have hn := len_size s
  have hbd := nrV_bd (if miB s.data.toList = true then s.data.toList.drop 1 else s.data.toList)
  change -1 ≤ foN s.data.toList ∧ foN s.data.toList ≤ 9999999999 at hbd
  obtain ⟨hbd1, hbd2⟩ := hbd
  cases hm : miB s.data.toList with
  | true =>
    have hm' := hm
    unfold miB at hm'
    simp at hm'
    obtain ⟨m1, m2⟩ := hm'
    have h0 : 0 < s.size := by omega
    obtain ⟨c0, hc0⟩ : ∃ c, s[0]'h0 = c := ⟨_, rfl⟩
    have hc45 : c0.toNat = 45 := by
      have : s.data.toList.head? = some c0 := by rw [List.head?_eq_getElem?, at_get h0, hc0]
      rw [m2] at this
      have e : (45 : UInt8) = c0 := by simpa using this
      rw [← e]
      rfl
    have hcall : Hid (∀ w0, Calls Tryd.prog 73 #[.string (s.extract 1 s.size)] w0 fun en w' => en = .returned (.int .i64 (foN s.data.toList)) ∧ w0 = w') := fun w0 => by
      have := nuRead_any (s.extract 1 s.size) w0 (Nat.le_trans (ext_size s 1 s.size) hs)
      rw [ext_drop] at this
      unfold foN
      rwa [if_pos hm]
    have HK : Hid (foK s.data.toList = !(decide (foN s.data.toList < 0) || (true && decide (foN s.data.toList = 0)) || decide (1000000 < foN s.data.toList))) := by show _ = _; unfold foK; rw [hm]
    have HV : Hid (foV s.data.toList = if foK s.data.toList = true then -foN s.data.toList else 0) := by
      show _ = _
      unfold foV foI
      split
      · first | rfl | (simp only [hm]; rfl)
      · rfl
    generalize foN s.data.toList = z at *
    clear hm
    rcases (show z < 0 ∨ z = 0 ∨ (0 < z ∧ z ≤ 1000000) ∨ 1000000 < z by omega) with c | rfl | ⟨c, c'⟩ | c
    · have H1 : Hid (foK s.data.toList = false) := by show _ = _; rw [HK.out, decide_eq_true c]; rfl
      have H2 : Hid (foV s.data.toList = 0) := by show _ = _; rw [HV.out, H1.out, if_neg (by decide)]
      go_enter Tryd.func57, Tryd.ntmps57
      go_wp2_with (first | (go_at_call 73; refine (hcall.out _).mono ?_; rintro e w' ⟨rfl, rfl⟩))
      go_ret2
      exact ⟨ret_ib H2.out.symm H1.out.symm, rfl⟩
    · have H1 : Hid (foK s.data.toList = false) := by show _ = _; rw [HK.out]; rfl
      have H2 : Hid (foV s.data.toList = 0) := by show _ = _; rw [HV.out, H1.out, if_neg (by decide)]
      go_enter Tryd.func57, Tryd.ntmps57
      go_wp2_with (first | (go_at_call 73; refine (hcall.out _).mono ?_; rintro e w' ⟨rfl, rfl⟩))
      go_ret2
      exact ⟨ret_ib H2.out.symm H1.out.symm, rfl⟩
    · have H1 : Hid (foK s.data.toList = true) := by show _ = _; rw [HK.out, decide_eq_false (by omega), decide_eq_false (by omega), decide_eq_false (by omega)]; rfl
      have H2 : Hid (foV s.data.toList = -z) := by show _ = _; rw [HV.out, H1.out, if_pos rfl]
      have hz0 : (z == 0) = false := by simp; omega
      go_enter Tryd.func57, Tryd.ntmps57
      go_wp2_with (first | (go_at_call 73; refine (hcall.out _).mono ?_; rintro e w' ⟨rfl, rfl⟩))
      go_ret2
      exact ⟨ret_ib H2.out.symm H1.out.symm, rfl⟩
    · have H1 : Hid (foK s.data.toList = false) := by show _ = _; rw [HK.out, decide_eq_true c, Bool.or_true]; rfl
      have H2 : Hid (foV s.data.toList = 0) := by show _ = _; rw [HV.out, H1.out, if_neg (by decide)]
      go_enter Tryd.func57, Tryd.ntmps57
      go_wp2_with (first | (go_at_call 73; refine (hcall.out _).mono ?_; rintro e w' ⟨rfl, rfl⟩))
      go_ret2
      exact ⟨ret_ib H2.out.symm H1.out.symm, rfl⟩
  | false =>
    have hcall : Hid (∀ w0, Calls Tryd.prog 73 #[.string s] w0 fun en w' => en = .returned (.int .i64 (foN s.data.toList)) ∧ w0 = w') := fun w0 => by
      have := nuRead_any s w0 hs
      unfold foN
      rwa [if_neg (by rw [hm]; decide)]
    have HK : Hid (foK s.data.toList = !(decide (foN s.data.toList < 0) || (false && decide (foN s.data.toList = 0)) || decide (1000000 < foN s.data.toList))) := by show _ = _; unfold foK; rw [hm]
    have HV : Hid (foV s.data.toList = if foK s.data.toList = true then foN s.data.toList else 0) := by
      show _ = _
      unfold foV foI
      split
      · first | rfl | (simp only [hm]; rfl)
      · rfl
    have hcase : s.size ≤ 1 ∨ (1 < s.size ∧ ∃ (h0 : 0 < s.size) (c0 : UInt8), s[0]'h0 = c0 ∧ ¬ c0.toNat = 45) := by
      rcases Nat.lt_or_ge 1 s.size with h | h
      · refine .inr ⟨h, by omega, _, rfl, fun h45 => ?_⟩
        unfold miB at hm
        rw [hn, decide_eq_true h, Bool.true_and] at hm
        have hh : s.data.toList.head? = some (s[0]'(by omega)) := by rw [List.head?_eq_getElem?, at_get (by omega)]
        have e := uint_of (s[0]'(by omega))
        rw [h45] at e
        rw [hh, ← e] at hm
        exact absurd hm (by decide)
      · exact .inl h
    generalize foN s.data.toList = z at *
    clear hm hn
    rcases (show z < 0 ∨ (0 ≤ z ∧ z ≤ 1000000) ∨ 1000000 < z by omega) with c | ⟨c, c'⟩ | c
    · have H1 : Hid (foK s.data.toList = false) := by show _ = _; rw [HK.out, decide_eq_true c]; rfl
      have H2 : Hid (foV s.data.toList = 0) := by show _ = _; rw [HV.out, H1.out, if_neg (by decide)]
      rcases hcase with hc | ⟨hc, h0, c0, hc0, h45⟩
      all_goals
        go_enter Tryd.func57, Tryd.ntmps57
        go_wp2_with (first | (go_at_call 73; refine (hcall.out _).mono ?_; rintro e w' ⟨rfl, rfl⟩))
        go_ret2
        exact ⟨ret_ib H2.out.symm H1.out.symm, rfl⟩
    · have H1 : Hid (foK s.data.toList = true) := by show _ = _; rw [HK.out, decide_eq_false (show ¬ z < 0 by omega), Bool.false_and, decide_eq_false (show ¬ 1000000 < z by omega)]; rfl
      have H2 : Hid (foV s.data.toList = z) := by show _ = _; rw [HV.out, H1.out, if_pos rfl]
      rcases hcase with hc | ⟨hc, h0, c0, hc0, h45⟩
      all_goals
        go_enter Tryd.func57, Tryd.ntmps57
        go_wp2_with (first | (go_at_call 73; refine (hcall.out _).mono ?_; rintro e w' ⟨rfl, rfl⟩))
        go_ret2
        exact ⟨ret_ib H2.out.symm H1.out.symm, rfl⟩
    · have H1 : Hid (foK s.data.toList = false) := by show _ = _; rw [HK.out, decide_eq_true c, Bool.or_true]; rfl
      have H2 : Hid (foV s.data.toList = 0) := by show _ = _; rw [HV.out, H1.out, if_neg (by decide)]
      rcases hcase with hc | ⟨hc, h0, c0, hc0, h45⟩
      all_goals
        go_enter Tryd.func57, Tryd.ntmps57
        go_wp2_with (first | (go_at_call 73; refine (hcall.out _).mono ?_; rintro e w' ⟨rfl, rfl⟩))
        go_ret2
        exact ⟨ret_ib H2.out.symm H1.out.symm, rfl⟩
end Go.Proofs.YtlfbanoabipacaaDoor
