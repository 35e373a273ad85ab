/-
  SeriesCombination: both ways, and the law. Printed by mkcom.py and nums.py.
-/
import Derived.Test.YtdahpjbpcdfhkaaPos
import Derived.Test.YtdahpjbpcdfhkaaFil
namespace Go.Proofs.Ytdahpjbpcdfhkaa
open Go.RowKit
attribute [local simp, local go_sem] past_cell past_frozen past_tape
theorem fnL_succ (n : Nat) (f : Nat → Int) : fnL (n + 1) f = fnL n f ++ [f n] := by simp [fnL, List.range_succ]
def scV (x y : Int) (A B : List Int) (m : Nat) : Int := x * A.getD m 0 + y * B.getD m 0
def scL (x y : Int) (A B : List Int) : List Int := fnL A.length (scV x y A B)
def scB (x y : Int) (A B : List Int) : Bool := ((serB A && serB B) && decide (A.length = B.length)) && (numB x && numB y)
def scR (x y : Int) (A B : List Int) : List Int × Bool := if scB x y A B && (scL x y A B).all numB then (scL x y A B, true) else ([], false)
theorem scL_len (x y : Int) (A B : List Int) : (scL x y A B).length = A.length := fnL_len _ _
theorem scR_len (x y : Int) (A B : List Int) : (scR x y A B).1.length ≤ 1100000 := by
  unfold scR
  split
  · rename_i h
    simp only [scB, Bool.and_eq_true] at h
    have := ser_len h.1.1.1.1
    show (scL x y A B).length ≤ _
    rw [scL_len]
    omega
  · simp
set_option maxRecDepth 100000 in
set_option maxHeartbeats 4000000 in
theorem implSC_yes (x y : Int) (B1 B2 n cap1 cap2 : Nat) (a1 a2 : Option Addr) (A B : List Int) (w : World) (cx : numB x = true) (cy : numB y = true) (sA : serB A = true) (sB : serB B = true) (hn1 : A.length = n) (hn2 : B.length = n) (h1 : Sees B1 1 c1 w a1 A) (h2 : Sees B2 1 c1 w a2 B) :
    Calls Try.prog 26 #[.slice a1 n cap1, .slice a2 n cap2, .int .i64 x, .int .i64 y] w fun en w' => ∃ v, en = .returned (.tuple #[v, .bool ((scL x y A B).all numB)]) ∧ Rw w.heap.size 3 1 c1 w' v (if (scL x y A B).all numB then scL x y A B else []) ∧ Below w.heap.size w w' := by
  obtain ⟨ii, hi1, hiz, hisz, hiby⟩ := info_parts (P := Try.prog) (e := 3) (z := .int .i64 0) (size := 1) (bytes := 8) (by kernel_rfl)
  have hA : Hid (Calls Try.prog 51 #[.slice a1 n cap1] w fun en w' => en = .returned (.bool true) ∧ w = w') := by
    obtain ⟨_, l2⟩ := ser_len sA
    have := isSeries_any B1 n cap1 a1 A w hn1 h1 (by omega)
    rwa [sA] at this
  have hB : Hid (Calls Try.prog 51 #[.slice a2 n cap2] w fun en w' => en = .returned (.bool true) ∧ w = w') := by
    obtain ⟨_, l2⟩ := ser_len sB
    have := isSeries_any B2 n cap2 a2 B w hn2 h2 (by omega)
    rwa [sB] at this
  obtain ⟨l1, l2⟩ := ser_len sA
  have HL : Hid (scL x y A B = fnL n (scV x y A B)) := by show _ = _; rw [scL, hn1]
  rw [HL.out]
  obtain ⟨R, hRz⟩ : ∃ R, R = (if (fnL n (scV x y A B)).all numB then fnL n (scV x y A B) else []) := ⟨_, rfl⟩
  rw [← hRz]
  obtain ⟨r, hrz⟩ : ∃ r, r = (fnL n (scV x y A B)).all numB := ⟨_, rfl⟩
  rw [← hrz]
  have HRZ := Lib.hid hRz
  have HrZ := Lib.hid hrz
  rw [hn1] at l1 l2
  obtain ⟨g1, rfl, _, hg1, hcell1, _⟩ := h1.resolve_left (by omega)
  obtain ⟨g2, rfl, _, hg2, hcell2, _⟩ := h2.resolve_left (by omega)
  have HC1 : Hid (∀ k x, A[k]? = some x → w.cell? ⟨g1, k, none⟩ = some (.int .i64 x)) := fun k x hx => by have := hcell1 k x hx 0 (by omega); simpa [c1] using this
  have HC2 : Hid (∀ k x, B[k]? = some x → w.cell? ⟨g2, k, none⟩ = some (.int .i64 x)) := fun k x hx => by have := hcell2 k x hx 0 (by omega); simpa [c1] using this
  have HS1 := Lib.hid sA
  have HS2 := Lib.hid sB
  have HN1 := Lib.hid hn1
  have HN2 := Lib.hid hn2
  obtain ⟨bx1, bx2⟩ := numB_bd cx
  obtain ⟨by1, by2⟩ := numB_bd cy
  have hX : Hid (∀ w1 : World, w1.cell? ⟨w.heap.size, 0, none⟩ = some (.int .i64 x) → w1.cell? ⟨w.heap.size, 1, none⟩ = some (.int .i64 y) → Calls Try.prog 53 #[.slice (some ⟨w.heap.size, 0, none⟩) 2 2] w1 fun en w' => en = .returned (.bool true) ∧ w1 = w') := fun w1 h1 h2 => by
    have := areNumbers_any [x, y] w.heap.size w1 (by simp) (fun i hi => by have hi : i < 2 := hi; match i, hi with | 0, _ => exact h1 | 1, _ => exact h2)
    simpa [cx, cy] using this
  clear h1 h2 hcell1 hcell2 sA sB hn1 hn2 hRz hrz cx cy
  go_enter Try.func26, Try.ntmps26
  go_wp2_with fail
  refine hA.out.mono ?_
  rintro e0 w0 ⟨rfl, rfl⟩
  go_wp2_with fail
  refine hB.out.mono ?_
  rintro e1 w1 ⟨rfl, rfl⟩
  go_wp2_with (go_at_call 53; refine (hX.out _ (by simp [go_sem]) (by simp [go_sem])).mono ?_; rintro e w' ⟨rfl, rfl⟩)
  go_loopw [10, 38] (fun v c wr => ∃ k : Nat, c = .int .i64 (k : Int) ∧ k ≤ n ∧ Hid (Rw w.heap.size 3 1 c1 wr v (fnL k (scV x y A B))) ∧ Hid (Below w.heap.size w wr)) (fun _ c _ => n - (intOf c).toNat)
  case atStart =>
    refine ⟨0, rfl, by omega, ?_, ?_⟩
    · exact Rw.empty2 (by omega) (by simp)
    · exact ((Below.refl _ _).alloc (Nat.le_refl _) _).alloc (by simp) _
  case round =>
    obtain ⟨k, rfl, hk, hr, hb⟩ := hrel
    obtain ⟨wo, rfl⟩ : ∃ wo : World, wo = wr := ⟨_, rfl⟩
    have hbz := hb.out.size
    by_cases hlt : k < n
    · obtain ⟨u, hu, hud, u1, u2⟩ := ser_get HS1.out HN1.out hlt
      obtain ⟨v, hv, hvd, v1, v2⟩ := ser_get HS2.out HN2.out hlt
      have gw1 : g1 < wo.heap.size := by omega
      have gw2 : g2 < wo.heap.size := by omega
      have hcx : wo.cell? ⟨g1, k, none⟩ = some (.int .i64 u) := by rw [bG hb.out hg1]; exact HC1.out k u hu
      have hcy : wo.cell? ⟨g2, k, none⟩ = some (.int .i64 v) := by rw [bG hb.out hg2]; exact HC2.out k v hv
      obtain ⟨p1, p2⟩ := mul_bd (show Bd 1000000 x from ⟨bx1, bx2⟩) (show Bd 1000000 u from ⟨u1, u2⟩) (show (1000000 : Int) * 1000000 ≤ 1000000000000 by decide)
      obtain ⟨p3, p4⟩ := mul_bd (show Bd 1000000 y from ⟨by1, by2⟩) (show Bd 1000000 v from ⟨v1, v2⟩) (show (1000000 : Int) * 1000000 ≤ 1000000000000 by decide)
      have HV : Hid (scV x y A B k = x * u + y * v) := by show _ = _; rw [scV, hud, hvd]
      clear hu hv hud hvd
      have hlen := fnL_len k (scV x y A B)
      go_wp2_with fail
      refine region_mix 15 [0, 1, 2, 3, 4, 5, 6, 7, 8, 9, 10, 11, 12, 13] [(false, 14)] (by kernel_rfl) (by kernel_rfl) (by kernel_rfl) ?_
      apply Exists.intro
      refine ⟨fun w0 hw0 => ?_, ?_⟩
      · obtain ⟨hC0, hF0⟩ := bcell hw0
        have hS0 := hw0.size
        (try simp at hS0)
        (try have hS0_w0 : w.heap.size < w0.heap.size := by omega)
        (try have hS0_w1 : w.heap.size + 1 < w0.heap.size := by omega)
        (try have hS0_w2 : w.heap.size + 1 + 1 < w0.heap.size := by omega)
        (try have hS0_w3 : w.heap.size + 1 + 1 + 1 < w0.heap.size := by omega)
        (try have hS0_w4 : w.heap.size + 1 + 1 + 1 + 1 < w0.heap.size := by omega)
        (try have hL0_w0 : w.heap.size ≤ w0.heap.size := by omega)
        (try have hL0_w1 : w.heap.size + 1 ≤ w0.heap.size := by omega)
        (try have hL0_w2 : w.heap.size + 1 + 1 ≤ w0.heap.size := by omega)
        (try have hL0_w3 : w.heap.size + 1 + 1 + 1 ≤ w0.heap.size := by omega)
        (try have hL0_w : w.heap.size ≤ w0.heap.size + 1 := by omega)
        (try have hM0_1 : w.heap.size < w0.heap.size + 1 := by omega)
        (try have hM0_2 : w.heap.size < w0.heap.size + 1 + 1 := by omega)
        (try have hM0_3 : w.heap.size < w0.heap.size + 1 + 1 + 1 := by omega)
        have ⟨gz1, gz2, gx, gy⟩ : g1 < w0.heap.size ∧ g2 < w0.heap.size ∧ w0.cell? ⟨g1, k, none⟩ = some (.int .i64 u) ∧ w0.cell? ⟨g2, k, none⟩ = some (.int .i64 v) := ⟨by omega, by omega, (hC0 _ _ gw1).trans hcx, (hC0 _ _ gw2).trans hcy⟩
        simp only [List.filterMap_cons, List.filterMap_nil, List.getElem?_cons_zero, List.getElem?_cons_succ]
        show wpQuiet _ _ _ _ [_, _, _, _, _, _, _, _, _, _, _, _, _, _] _
        repeat (first | go_big_quiet_skip | (go_big_quiet_want; go_big_quiet_op; first | go_big_quiet_on | (apply Exists.intro; refine ⟨fun _ => ?_, ?_⟩; (focus (fail)); go_big_quiet_on)))
        refine wpQuiet_nil ?_
        rfl
      intro W hW hWz
      simp only [List.filterMap_cons, List.filterMap_nil, List.getElem?_cons_zero, List.getElem?_cons_succ, Option.map_some, List.drop_succ_cons, List.drop_zero]
      show effW _ _ _ _ [(false, _)] _ _
      refine effM_of fun wa hBa => ?_
      have hza := hBa.size
      go_wp2
      refine effQ_of rfl (by repeat (first | with_reducible exact Below.refl _ _ | with_reducible assumption | ((with_reducible refine blA ?_ ?_); (focus (first | omega | (simp <;> omega)))) | (with_reducible refine blD ?_) | (with_reducible refine blN ?_) | ((with_reducible refine blS ?_ ?_); (focus (first | omega | (simp <;> omega)))) | ((with_reducible refine blT (by assumption) ?_ ?_); (focus (first | omega | (simp <;> omega)))))) ?_
      intro wl hwl
      have hBl := past_below hwl
      clear hwl
      have hzl := hBl.size
      simp at hzl
      have hblk : wl.heap[wa.heap.size]? = some (.cells #[.int .i64 (x * u + y * v)] 3 (0, 0)) := by rw [hBl.block _ (by simp), heap_alloc_new]
      have hWa : Below wo.heap.size wo wa := hW.trans (hBa.mono hW.size)
      have hrl := Lib.hid (((hr.out.later hWa).alloc (.cells #[.int .i64 (x * u + y * v)] 3)).later hBl)
      have hWaz := hWa.size
      have HB1 : Hid (Below w.heap.size w wl) := (((hb.out.trans (hWa.mono hbz)).alloc (by omega) _).trans (hBl.mono (by simp; omega)))
      have hbz1 := HB1.out.size
      clear hBl hBa hW hWa
      go_wp2_with (at_builtin; go_loud (refine app_int hrl.out (by rfl) _ _ _ (by rfl) (by kernel_rfl) (by rfl) _ (x * u + y * v) (by rfl) hblk (by omega) (by omega) ?_))
      intro vA wA hrA hgA hatA
      have hbA : Below w.heap.size w wA := below_of_grown HB1.out hgA (by omega) (fun g hg => (hrl.out.lt g hg).1)
      have HRA := Lib.hid hrA
      have HBA := Lib.hid hbA
      clear hrA hbA hgA hatA
      go_wp2
      go_roundw
      case rel =>
        go_light
        refine ⟨k + 1, by go_num, by omega, ?_, HBA.out⟩
        show Rw _ _ _ _ _ _ _
        rw [fnL_succ, HV.out]; exact HRA.out
      case measure => simp [intOf]; omega
    · have hkn : k = n := by omega
      subst hkn
      have hlen := fnL_len k (scV x y A B)
      go_wp2_with fail
      have key := checked_any _ _ _ _ hr.out hbz (by omega)
      rw [← HRZ.out, ← HrZ.out] at key
      refine key.mono ?_
      rintro e9 w9 ⟨v9, rfl, hr9, hB9⟩
      have HR9 := Lib.hid hr9
      have HB9 := Lib.hid (hb.out.trans (hB9.mono hbz))
      clear hr9 hB9 key
      go_wp2
      go_ret2
      exact ⟨_, rfl, HR9.out, HB9.out⟩
set_option maxRecDepth 100000 in
set_option maxHeartbeats 4000000 in
theorem implSC_any (x y : Int) (B1 B2 n1 n2 cap1 cap2 : Nat) (a1 a2 : Option Addr) (A B : List Int) (w : World) (hn1 : A.length = n1) (hn2 : B.length = n2) (h1 : Sees B1 1 c1 w a1 A) (h2 : Sees B2 1 c1 w a2 B) (hl1 : n1 ≤ 1100000) (hl2 : n2 ≤ 1100000) :
    Calls Try.prog 26 #[.slice a1 n1 cap1, .slice a2 n2 cap2, .int .i64 x, .int .i64 y] w fun en w' => ∃ v, en = .returned (.tuple #[v, .bool (scR x y A B).2]) ∧ Rw w.heap.size 3 1 c1 w' v (scR x y A B).1 ∧ Below w.heap.size w w' := by
  have hA : Hid (Calls Try.prog 51 #[.slice a1 n1 cap1] w fun en w' => en = .returned (.bool (serB A)) ∧ w = w') := isSeries_any B1 n1 cap1 a1 A w hn1 h1 hl1
  have hB : Hid (Calls Try.prog 51 #[.slice a2 n2 cap2] w fun en w' => en = .returned (.bool (serB B)) ∧ w = w') := isSeries_any B2 n2 cap2 a2 B w hn2 h2 hl2
  cases cA : serB A with
  | false =>
    have hR : scR x y A B = ([], false) := by rw [scR, scB, cA]; rfl
    rw [hR]
    rw [cA] at hA
    clear hB hR h1 h2 hn1 hn2 cA
    go_enter Try.func26, Try.ntmps26
    go_wp2_with fail
    refine hA.out.mono ?_
    rintro e0 w0 ⟨rfl, rfl⟩
    go_wp2
    go_ret2
    exact ⟨_, rfl, Rw.empty (Nat.le_refl _), (Below.refl _ _).alloc (Nat.le_refl _) _⟩
  | true =>
    rw [cA] at hA
    cases cB : serB B with
    | false =>
      have hR : scR x y A B = ([], false) := by rw [scR, scB, cA, cB]; rfl
      rw [hR]
      rw [cB] at hB
      clear hR h1 h2 hn1 hn2 cA cB
      go_enter Try.func26, Try.ntmps26
      go_wp2_with fail
      refine hA.out.mono ?_
      rintro e0 w0 ⟨rfl, rfl⟩
      go_wp2_with fail
      refine hB.out.mono ?_
      rintro e1 w1 ⟨rfl, rfl⟩
      go_wp2
      go_ret2
      exact ⟨_, rfl, Rw.empty (Nat.le_refl _), (Below.refl _ _).alloc (Nat.le_refl _) _⟩
    | true =>
      rw [cB] at hB
      by_cases hnn : n1 = n2
      · subst hnn
        have hdec : decide (A.length = B.length) = true := decide_eq_true (by omega)
        cases cx : numB x with
        | true =>
          cases cy : numB y with
          | true =>
            have hR : scR x y A B = (if (scL x y A B).all numB then scL x y A B else [], (scL x y A B).all numB) := by
              rw [scR, scB, cA, cB, hdec, cx, cy]
              cases (scL x y A B).all numB <;> rfl
            rw [hR]
            exact implSC_yes x y B1 B2 n1 cap1 cap2 a1 a2 A B w cx cy cA cB hn1 hn2 h1 h2
          | false =>
            have hR : scR x y A B = ([], false) := by rw [scR, scB, cy, Bool.and_false, Bool.and_false]; rfl
            rw [hR]
            clear hR hdec cA cB h1 h2 hn1 hn2
            have hX : Hid (∀ w1 : World, w1.cell? ⟨w.heap.size, 0, none⟩ = some (.int .i64 x) → w1.cell? ⟨w.heap.size, 1, none⟩ = some (.int .i64 y) → Calls Try.prog 53 #[.slice (some ⟨w.heap.size, 0, none⟩) 2 2] w1 fun en w' => en = .returned (.bool false) ∧ w1 = w') := fun w1 h1 h2 => by
              have := areNumbers_any [x, y] w.heap.size w1 (by simp) (fun i hi => by have hi : i < 2 := hi; match i, hi with | 0, _ => exact h1 | 1, _ => exact h2)
              simpa [cx, cy] using this
            go_enter Try.func26, Try.ntmps26
            go_wp2_with fail
            refine hA.out.mono ?_
            rintro e0 w0 ⟨rfl, rfl⟩
            go_wp2_with fail
            refine hB.out.mono ?_
            rintro e1 w1 ⟨rfl, rfl⟩
            go_wp2_with (go_at_call 53; refine (hX.out _ (by simp [go_sem]) (by simp [go_sem])).mono ?_; rintro e w' ⟨rfl, rfl⟩)
            go_ret2
            exact ⟨_, rfl, Rw.empty2 (by omega) (by simp), ((Below.refl _ _).alloc (Nat.le_refl _) _).alloc (by simp) _⟩
        | false =>
          have hR : scR x y A B = ([], false) := by rw [scR, scB, cx, Bool.false_and, Bool.and_false]; rfl
          rw [hR]
          clear hR hdec cA cB h1 h2 hn1 hn2
          have hX : Hid (∀ w1 : World, w1.cell? ⟨w.heap.size, 0, none⟩ = some (.int .i64 x) → w1.cell? ⟨w.heap.size, 1, none⟩ = some (.int .i64 y) → Calls Try.prog 53 #[.slice (some ⟨w.heap.size, 0, none⟩) 2 2] w1 fun en w' => en = .returned (.bool false) ∧ w1 = w') := fun w1 h1 h2 => by
            have := areNumbers_any [x, y] w.heap.size w1 (by simp) (fun i hi => by have hi : i < 2 := hi; match i, hi with | 0, _ => exact h1 | 1, _ => exact h2)
            simpa [cx] using this
          go_enter Try.func26, Try.ntmps26
          go_wp2_with fail
          refine hA.out.mono ?_
          rintro e0 w0 ⟨rfl, rfl⟩
          go_wp2_with fail
          refine hB.out.mono ?_
          rintro e1 w1 ⟨rfl, rfl⟩
          go_wp2_with (go_at_call 53; refine (hX.out _ (by simp [go_sem]) (by simp [go_sem])).mono ?_; rintro e w' ⟨rfl, rfl⟩)
          go_ret2
          exact ⟨_, rfl, Rw.empty2 (by omega) (by simp), ((Below.refl _ _).alloc (Nat.le_refl _) _).alloc (by simp) _⟩
      · have hR : scR x y A B = ([], false) := by rw [scR, scB, decide_eq_false (show ¬ A.length = B.length by omega), Bool.and_false]; rfl
        rw [hR]
        clear hR cA cB h1 h2 hn1 hn2
        have hnz : ((n1 : Int) == (n2 : Int)) = false := by simp; omega
        go_enter Try.func26, Try.ntmps26
        go_wp2_with fail
        refine hA.out.mono ?_
        rintro e0 w0 ⟨rfl, rfl⟩
        go_wp2_with fail
        refine hB.out.mono ?_
        rintro e1 w1 ⟨rfl, rfl⟩
        go_wp2
        go_ret2
        exact ⟨_, rfl, Rw.empty (Nat.le_refl _), (Below.refl _ _).alloc (Nat.le_refl _) _⟩
set_option maxRecDepth 100000 in
set_option maxHeartbeats 4000000 in
theorem specSC_yes (x y : Int) (B1 B2 n cap1 cap2 : Nat) (a1 a2 : Option Addr) (A B : List Int) (w : World) (cx : numB x = true) (cy : numB y = true) (sA : serB A = true) (sB : serB B = true) (hn1 : A.length = n) (hn2 : B.length = n) (h1 : Sees B1 1 c1 w a1 A) (h2 : Sees B2 1 c1 w a2 B) :
    Calls Try.prog 25 #[.slice a1 n cap1, .slice a2 n cap2, .int .i64 x, .int .i64 y] w fun en w' => ∃ v, en = .returned (.tuple #[v, .bool ((scL x y A B).all numB)]) ∧ Rw w.heap.size 3 1 c1 w' v (if (scL x y A B).all numB then scL x y A B else []) ∧ Below w.heap.size w w' := by
  obtain ⟨ii, hi1, hiz, hisz, hiby⟩ := info_parts (P := Try.prog) (e := 3) (z := .int .i64 0) (size := 1) (bytes := 8) (by kernel_rfl)
  have hA : Hid (Calls Try.prog 48 #[.slice a1 n cap1] w fun en w' => en = .returned (.bool true) ∧ w = w') := by
    obtain ⟨_, l2⟩ := ser_len sA
    have := thGood_any B1 n cap1 a1 A w hn1 h1 (by omega)
    rwa [sA] at this
  have hB : Hid (Calls Try.prog 48 #[.slice a2 n cap2] w fun en w' => en = .returned (.bool true) ∧ w = w') := by
    obtain ⟨_, l2⟩ := ser_len sB
    have := thGood_any B2 n cap2 a2 B w hn2 h2 (by omega)
    rwa [sB] at this
  obtain ⟨l1, l2⟩ := ser_len sA
  have HL : Hid (scL x y A B = fnL n (scV x y A B)) := by show _ = _; rw [scL, hn1]
  rw [HL.out]
  obtain ⟨R, hRz⟩ : ∃ R, R = (if (fnL n (scV x y A B)).all numB then fnL n (scV x y A B) else []) := ⟨_, rfl⟩
  rw [← hRz]
  obtain ⟨r, hrz⟩ : ∃ r, r = (fnL n (scV x y A B)).all numB := ⟨_, rfl⟩
  rw [← hrz]
  have HRZ := Lib.hid hRz
  have HrZ := Lib.hid hrz
  rw [hn1] at l1 l2
  obtain ⟨g1, rfl, _, hg1, hcell1, _⟩ := h1.resolve_left (by omega)
  obtain ⟨g2, rfl, _, hg2, hcell2, _⟩ := h2.resolve_left (by omega)
  have HC1 : Hid (∀ k x, A[k]? = some x → w.cell? ⟨g1, k, none⟩ = some (.int .i64 x)) := fun k x hx => by have := hcell1 k x hx 0 (by omega); simpa [c1] using this
  have HC2 : Hid (∀ k x, B[k]? = some x → w.cell? ⟨g2, k, none⟩ = some (.int .i64 x)) := fun k x hx => by have := hcell2 k x hx 0 (by omega); simpa [c1] using this
  have HS1 := Lib.hid sA
  have HS2 := Lib.hid sB
  have HN1 := Lib.hid hn1
  have HN2 := Lib.hid hn2
  obtain ⟨bx1, bx2⟩ := numB_bd cx
  obtain ⟨by1, by2⟩ := numB_bd cy
  have hX : Hid (∀ w1, Calls Try.prog 46 #[.int .i64 x] w1 fun en w' => en = .returned (.bool true) ∧ w1 = w') := fun w1 => by have := nuGood_any x w1; rwa [cx] at this
  have hY : Hid (∀ w1, Calls Try.prog 46 #[.int .i64 y] w1 fun en w' => en = .returned (.bool true) ∧ w1 = w') := fun w1 => by have := nuGood_any y w1; rwa [cy] at this
  clear h1 h2 hcell1 hcell2 sA sB hn1 hn2 hRz hrz cx cy
  go_enter Try.func25, Try.ntmps25
  go_wp2_with fail
  refine hA.out.mono ?_
  rintro e0 w0 ⟨rfl, rfl⟩
  go_wp2_with fail
  refine hB.out.mono ?_
  rintro e1 w1 ⟨rfl, rfl⟩
  go_wp2_with (first | (go_at_call 46; refine (hX.out _).mono ?_; rintro e w' ⟨rfl, rfl⟩) | (go_at_call 46; refine (hY.out _).mono ?_; rintro e w' ⟨rfl, rfl⟩) | (at_make; refine wpList_make_full _ rfl _ _ _ rfl w.heap.size 3 ii (.int .i64 0) 1 (by kernel_rfl) hi1 hiz hisz .i64 .i64 _ _ n rfl rfl (by omega) (by omega) (by rw [hiby]; omega) (by unfold maxLen; omega) (Nat.le_refl _) ?_; intro wm hown hgrow))
  have hF := Lib.hid (Fil.made hown)
  have hBm := Lib.hid (Below.grown (Below.refl _ _) hgrow (Nat.le_refl _) (fun k hk => by cases hk) : Below w.heap.size w wm)
  clear hown hgrow
  go_wp2
  go_loopw [42] (fun c wr => ∃ k : Nat, c = .int .i64 (k : Int) ∧ k ≤ n ∧ Hid (Fil w.heap.size wr w.heap.size n (fun j => if j < k then scV x y A B j else 0)) ∧ Hid (Below w.heap.size w wr)) (fun c _ => n - (intOf c).toNat)
  case atStart =>
    refine ⟨0, rfl, by omega, ?_, hBm.out⟩
    show Fil _ _ _ _ _
    refine hF.out.congr fun j hj => ?_
    rw [if_neg (by omega)]
  case round =>
    obtain ⟨k, rfl, hk, hr, hb⟩ := hrel
    obtain ⟨wo, rfl⟩ : ∃ wo : World, wo = wr := ⟨_, rfl⟩
    have hbz := hb.out.size
    by_cases hlt : k < n
    · obtain ⟨u, hu, hud, u1, u2⟩ := ser_get HS1.out HN1.out hlt
      obtain ⟨v, hv, hvd, v1, v2⟩ := ser_get HS2.out HN2.out hlt
      have gw1 : g1 < wo.heap.size := by omega
      have gw2 : g2 < wo.heap.size := by omega
      have hcx : wo.cell? ⟨g1, k, none⟩ = some (.int .i64 u) := by rw [bG hb.out hg1]; exact HC1.out k u hu
      have hcy : wo.cell? ⟨g2, k, none⟩ = some (.int .i64 v) := by rw [bG hb.out hg2]; exact HC2.out k v hv
      obtain ⟨p1, p2⟩ := mul_bd (show Bd 1000000 x from ⟨bx1, bx2⟩) (show Bd 1000000 u from ⟨u1, u2⟩) (show (1000000 : Int) * 1000000 ≤ 1000000000000 by decide)
      obtain ⟨p3, p4⟩ := mul_bd (show Bd 1000000 y from ⟨by1, by2⟩) (show Bd 1000000 v from ⟨v1, v2⟩) (show (1000000 : Int) * 1000000 ≤ 1000000000000 by decide)
      have HV : Hid (scV x y A B k = x * u + y * v) := by show _ = _; rw [scV, hud, hvd]
      clear hu hv hud hvd
      have hc := hr.out.cell (j := k) hlt
      have hfr := hr.out.frozen k
      have hglt := hr.out.lt.2
      rw [if_neg (by omega)] at hc
      go_wp2_with fail
      refine wp_region_past_tail 16 (by kernel_rfl) (by kernel_rfl) ?_
      simp only [List.take_succ_cons, List.take_zero, List.drop_succ_cons, List.drop_zero]
      repeat (first | go_big_quiet_skip | (go_big_quiet_want; go_big_quiet_op; first | go_big_quiet_on | (apply Exists.intro; refine ⟨fun _ => ?_, ?_⟩; (focus (fail)); go_big_quiet_on)))
      refine wpQuiet_nil ?_
      intro w1 hw'
      have hB1 := past_below hw'
      clear hw'
      obtain ⟨hC1, hF1⟩ := bcell hB1
      have hS1 := hB1.size
      (try simp at hS1)
      (try have hS1_w0 : w.heap.size < w1.heap.size := by omega)
      (try have hS1_w1 : w.heap.size + 1 < w1.heap.size := by omega)
      (try have hS1_w2 : w.heap.size + 1 + 1 < w1.heap.size := by omega)
      (try have hS1_w3 : w.heap.size + 1 + 1 + 1 < w1.heap.size := by omega)
      (try have hS1_w4 : w.heap.size + 1 + 1 + 1 + 1 < w1.heap.size := by omega)
      have hfm := hr.out.later hB1
      have hc1 := hfm.cell (j := k) hlt
      have hfr1 := hfm.frozen k
      have hb3 := Lib.hid (hb.out.trans (hB1.mono hbz))
      have HF := Lib.hid (hfm.set k (x * u + y * v))
      rw [if_neg (by omega)] at hc1
      clear hB1 hC1 hF1 hfm hc hfr
      go_wp2
      go_roundw
      case rel =>
        go_light
        refine ⟨k + 1, by go_num, by omega, ?_, ?_⟩
        · show Fil _ _ _ _ _
          refine HF.out.congr fun j hj => ?_
          by_cases hjk : j = k
          · subst hjk
            rw [if_pos rfl, if_pos (by omega), HV.out]
          · rw [if_neg hjk]
            by_cases hjl : j < k
            · rw [if_pos hjl, if_pos (by omega)]
            · rw [if_neg hjl, if_neg (by omega)]
        · show Below _ _ _
          exact hb3.out.setCell (Nat.le_refl _) _
      case measure => simp [intOf]; omega
    · have hkn : k = n := by omega
      subst hkn
      have hlen := fnL_len k (scV x y A B)
      have hrow : Rw w.heap.size 3 1 c1 wo (.slice (some ⟨w.heap.size, 0, none⟩) k k) (fnL k (scV x y A B)) := hr.out.congr fun j hj => by rw [if_pos hj]
      have HROW := Lib.hid hrow
      clear hrow
      go_wp2_with fail
      have key := thIf_any _ _ _ _ HROW.out (by omega) (by omega)
      rw [← HRZ.out, ← HrZ.out] at key
      refine key.mono ?_
      rintro e9 w9 ⟨v9, rfl, hr9, hB9⟩
      have HR9 := Lib.hid hr9
      have HB9 := Lib.hid (hb.out.trans (hB9.mono hbz))
      clear hr9 hB9 key
      go_wp2
      go_ret2
      exact ⟨_, rfl, HR9.out, HB9.out⟩
set_option maxRecDepth 100000 in
set_option maxHeartbeats 4000000 in
theorem specSC_any (x y : Int) (B1 B2 n1 n2 cap1 cap2 : Nat) (a1 a2 : Option Addr) (A B : List Int) (w : World) (hn1 : A.length = n1) (hn2 : B.length = n2) (h1 : Sees B1 1 c1 w a1 A) (h2 : Sees B2 1 c1 w a2 B) (hl1 : n1 ≤ 1100000) (hl2 : n2 ≤ 1100000) :
    Calls Try.prog 25 #[.slice a1 n1 cap1, .slice a2 n2 cap2, .int .i64 x, .int .i64 y] w fun en w' => ∃ v, en = .returned (.tuple #[v, .bool (scR x y A B).2]) ∧ Rw w.heap.size 3 1 c1 w' v (scR x y A B).1 ∧ Below w.heap.size w w' := by
  have hA : Hid (Calls Try.prog 48 #[.slice a1 n1 cap1] w fun en w' => en = .returned (.bool (serB A)) ∧ w = w') := thGood_any B1 n1 cap1 a1 A w hn1 h1 hl1
  have hB : Hid (Calls Try.prog 48 #[.slice a2 n2 cap2] w fun en w' => en = .returned (.bool (serB B)) ∧ w = w') := thGood_any B2 n2 cap2 a2 B w hn2 h2 hl2
  cases cA : serB A with
  | false =>
    have hR : scR x y A B = ([], false) := by rw [scR, scB, cA]; rfl
    rw [hR]
    rw [cA] at hA
    clear hB hR h1 h2 hn1 hn2 cA
    go_enter Try.func25, Try.ntmps25
    go_wp2_with fail
    refine hA.out.mono ?_
    rintro e0 w0 ⟨rfl, rfl⟩
    go_wp2
    go_ret2
    exact ⟨_, rfl, Rw.nil _ _ _ _ _, Below.refl _ _⟩
  | true =>
    rw [cA] at hA
    cases cB : serB B with
    | false =>
      have hR : scR x y A B = ([], false) := by rw [scR, scB, cA, cB]; rfl
      rw [hR]
      rw [cB] at hB
      clear hR h1 h2 hn1 hn2 cA cB
      go_enter Try.func25, Try.ntmps25
      go_wp2_with fail
      refine hA.out.mono ?_
      rintro e0 w0 ⟨rfl, rfl⟩
      go_wp2_with fail
      refine hB.out.mono ?_
      rintro e1 w1 ⟨rfl, rfl⟩
      go_wp2
      go_ret2
      exact ⟨_, rfl, Rw.nil _ _ _ _ _, Below.refl _ _⟩
    | true =>
      rw [cB] at hB
      by_cases hnn : n1 = n2
      · subst hnn
        have hdec : decide (A.length = B.length) = true := decide_eq_true (by omega)
        cases cx : numB x with
        | true =>
          cases cy : numB y with
          | true =>
            have hR : scR x y A B = (if (scL x y A B).all numB then scL x y A B else [], (scL x y A B).all numB) := by
              rw [scR, scB, cA, cB, hdec, cx, cy]
              cases (scL x y A B).all numB <;> rfl
            rw [hR]
            exact specSC_yes x y B1 B2 n1 cap1 cap2 a1 a2 A B w cx cy cA cB hn1 hn2 h1 h2
          | false =>
            have hR : scR x y A B = ([], false) := by rw [scR, scB, cy, Bool.and_false, Bool.and_false]; rfl
            rw [hR]
            clear hR hdec cA cB h1 h2 hn1 hn2
            go_enter Try.func25, Try.ntmps25
            go_wp2_with fail
            refine hA.out.mono ?_
            rintro e0 w0 ⟨rfl, rfl⟩
            go_wp2_with fail
            refine hB.out.mono ?_
            rintro e1 w1 ⟨rfl, rfl⟩
            go_wp2_with (go_at_call 46; refine (nuGood_any _ _).mono ?_; rintro e w' ⟨rfl, rfl⟩)
            go_ret2
            exact ⟨_, rfl, Rw.nil _ _ _ _ _, Below.refl _ _⟩
        | false =>
          have hR : scR x y A B = ([], false) := by rw [scR, scB, cx, Bool.false_and, Bool.and_false]; rfl
          rw [hR]
          clear hR hdec cA cB h1 h2 hn1 hn2
          go_enter Try.func25, Try.ntmps25
          go_wp2_with fail
          refine hA.out.mono ?_
          rintro e0 w0 ⟨rfl, rfl⟩
          go_wp2_with fail
          refine hB.out.mono ?_
          rintro e1 w1 ⟨rfl, rfl⟩
          go_wp2_with (go_at_call 46; refine (nuGood_any _ _).mono ?_; rintro e w' ⟨rfl, rfl⟩)
          go_ret2
          exact ⟨_, rfl, Rw.nil _ _ _ _ _, Below.refl _ _⟩
      · have hR : scR x y A B = ([], false) := by rw [scR, scB, decide_eq_false (show ¬ A.length = B.length by omega), Bool.and_false]; rfl
        rw [hR]
        clear hR cA cB h1 h2 hn1 hn2
        have hnz : ((n1 : Int) == (n2 : Int)) = false := by simp; omega
        go_enter Try.func25, Try.ntmps25
        go_wp2_with fail
        refine hA.out.mono ?_
        rintro e0 w0 ⟨rfl, rfl⟩
        go_wp2_with fail
        refine hB.out.mono ?_
        rintro e1 w1 ⟨rfl, rfl⟩
        go_wp2
        go_ret2
        exact ⟨_, rfl, Rw.nil _ _ _ _ _, Below.refl _ _⟩
set_option maxRecDepth 100000 in
set_option maxHeartbeats 8000000 in
theorem law_seriesCombination (a0 : Option Addr) (len0 cap0 : Nat) (zs0 : List Int) (a1 : Option Addr) (len1 cap1 : Nat) (zs1 : List Int) (x y : Int) (w : World) (h0 : IArg w a0 len0 zs0) (hlc0 : len0 ≤ cap0) (hl0 : len0 ≤ 9223372036854775807) (h1 : IArg w a1 len1 zs1) (hlc1 : len1 ≤ cap1) (hl1 : len1 ≤ 9223372036854775807) (_ : I64 x) (_ : I64 y) :
    Calls Try.prog 8 #[.slice a0 len0 cap0, .slice a1 len1 cap1, .int .i64 x, .int .i64 y] w fun en w' => en = .returned (.bool true) ∧ Below w.heap.size w w' := by
  have H0 := Lib.hid h0
  clear h0
  have H1 := Lib.hid h1
  clear h1
  by_cases big0 : 1048576 < (len0 : Int)
  · go_enter Try.func8, Try.ntmps8
    go_wp2
    go_ret
    exact ⟨rfl, Below.refl _ _⟩
  by_cases big1 : 1048576 < (len1 : Int)
  · go_enter Try.func8, Try.ntmps8
    go_wp2
    go_ret
    exact ⟨rfl, Below.refl _ _⟩
  have sm0 : len0 ≤ 1048576 := by omega
  have HZ0 : Hid (zs0.length = len0) := H0.out.1
  clear big0
  have sm1 : len1 ≤ 1048576 := by omega
  have HZ1 : Hid (zs1.length = len1) := H1.out.1
  clear big1
  obtain ⟨R, hR⟩ : ∃ R, R = scR x y zs0 zs1 := ⟨_, rfl⟩
  have hlen : R.1.length ≤ 1100000 := by rw [hR]; exact scR_len x y zs0 zs1
  have HR := Lib.hid hR
  clear hR
  obtain ⟨n', hn'⟩ : ∃ n', R.1.length = n' := ⟨_, rfl⟩
  rw [hn'] at hlen
  have HN := Lib.hid hn'
  clear hn'
  go_enter Try.func8, Try.ntmps8
  have BW0 := Lib.hid (Below.refl w.heap.size w)
  go_wp2_with fail
  refine (toIntS_any a0 len0 cap0 zs0 _ (H0.out.later BW0.out) sm0 hlc0).mono ?_
  rintro e1 v1 ⟨x1, rfl, hr, hB⟩
  have hz1 := hB.size
  have D1 := Lib.hid hB
  have BW1 := Lib.hid (BW0.out.trans (hB.mono (by omega)))
  obtain ⟨pQ0, cQ0, hv, hk, _, hs⟩ := hr.sees c1_len
  rw [HZ0.out] at hv hk
  subst hv
  clear hk hs
  have Q0_1 := Lib.hid hr
  clear hr
  clear hB
  go_wp2_with fail
  refine (toIntS_any a1 len1 cap1 zs1 _ (H1.out.later BW1.out) sm1 hlc1).mono ?_
  rintro e2 v2 ⟨x2, rfl, hr, hB⟩
  have hz2 := hB.size
  have D2 := Lib.hid hB
  have BW2 := Lib.hid (BW1.out.trans (hB.mono (by omega)))
  have Q0_2 := Lib.hid (Q0_1.out.later hB)
  clear Q0_1
  obtain ⟨pQ1, cQ1, hv, hk, _, hs⟩ := hr.sees c1_len
  rw [HZ1.out] at hv hk
  subst hv
  clear hk hs
  have Q1_2 := Lib.hid hr
  clear hr
  clear hB
  have hq := specSC_any x y _ _ len0 len1 cQ0 cQ1 _ _ zs0 zs1 v2 HZ0.out HZ1.out (Q0_2.out.seen c1_len).1 (Q1_2.out.seen c1_len).1 (by omega) (by omega)
  rw [← HR.out] at hq
  go_wp2_with fail
  refine hq.mono ?_
  clear hq
  rintro e3 v3 ⟨x3, rfl, hr, hB⟩
  have hz3 := hB.size
  have BW3 := Lib.hid (BW2.out.trans (hB.mono (by omega)))
  have Q0_3 := Lib.hid (Q0_2.out.later hB)
  clear Q0_2
  have Q1_3 := Lib.hid (Q1_2.out.later hB)
  clear Q1_2
  obtain ⟨pG0, cG0, hv, hk, _, hs⟩ := hr.sees c1_len
  rw [HN.out] at hv hk
  subst hv
  clear hk hs
  have G0_3 := Lib.hid hr
  clear hr hB
  have LTG0 : Hid (∀ g, (Value.slice pG0 n' cG0).ownBlock = some g → g < v3.heap.size) := fun g hg => (G0_3.out.lt g hg).2
  clear Q0_3
  clear Q1_3
  go_wp2_with fail
  refine (toIntS_any a0 len0 cap0 zs0 _ (H0.out.later BW3.out) sm0 hlc0).mono ?_
  rintro e4 v4 ⟨x4, rfl, hr, hB⟩
  have hz4 := hB.size
  have D4 := Lib.hid hB
  have BW4 := Lib.hid (BW3.out.trans (hB.mono (by omega)))
  have G0_4 := Lib.hid (G0_3.out.later hB)
  clear G0_3
  obtain ⟨pX0, cX0, hv, hk, _, hs⟩ := hr.sees c1_len
  rw [HZ0.out] at hv hk
  subst hv
  clear hk hs
  have X0_4 := Lib.hid hr
  clear hr
  clear hB
  have LTX0 : Hid (∀ g, (Value.slice pX0 len0 cX0).ownBlock = some g → g < v4.heap.size) := fun g hg => (X0_4.out.lt g hg).2
  go_wp2_with fail
  refine (toIntS_any a1 len1 cap1 zs1 _ (H1.out.later BW4.out) sm1 hlc1).mono ?_
  rintro e5 v5 ⟨x5, rfl, hr, hB⟩
  have hz5 := hB.size
  have D5 := Lib.hid hB
  have BW5 := Lib.hid (BW4.out.trans (hB.mono (by omega)))
  have G0_5 := Lib.hid (G0_4.out.later hB)
  clear G0_4
  have X0_5 := Lib.hid (X0_4.out.later hB)
  clear X0_4
  obtain ⟨pX1, cX1, hv, hk, _, hs⟩ := hr.sees c1_len
  rw [HZ1.out] at hv hk
  subst hv
  clear hk hs
  have X1_5 := Lib.hid hr
  clear hr
  clear hB
  have LTX1 : Hid (∀ g, (Value.slice pX1 len1 cX1).ownBlock = some g → g < v5.heap.size) := fun g hg => (X1_5.out.lt g hg).2
  have hq := implSC_any x y _ _ len0 len1 cX0 cX1 _ _ zs0 zs1 v5 HZ0.out HZ1.out (X0_5.out.seen c1_len).1 (X1_5.out.seen c1_len).1 (by omega) (by omega)
  rw [← HR.out] at hq
  go_wp2_with fail
  refine hq.mono ?_
  clear hq
  rintro e6 v6 ⟨x6, rfl, hr, hB⟩
  have hz6 := hB.size
  have BW6 := Lib.hid (BW5.out.trans (hB.mono (by omega)))
  have G0_6 := Lib.hid (G0_5.out.later hB)
  clear G0_5
  have X0_6 := Lib.hid (X0_5.out.later hB)
  clear X0_5
  have X1_6 := Lib.hid (X1_5.out.later hB)
  clear X1_5
  obtain ⟨pG1, cG1, hv, hk, _, hs⟩ := hr.sees c1_len
  rw [HN.out] at hv hk
  subst hv
  clear hk hs
  have G1_6 := Lib.hid hr
  clear hr hB
  have LTG1 : Hid (∀ g, (Value.slice pG1 n' cG1).ownBlock = some g → g < v6.heap.size) := fun g hg => (G1_6.out.lt g hg).2
  go_wp2_with fail
  refine (eqIntS_same _ _ _ _ _ _ _ _ _ HN.out (G1_6.out.seen c1_len).1 (G0_6.out.seen c1_len).1 hlen).mono ?_
  rintro e7 v7 ⟨rfl, hB⟩
  have hz7 := hB.size
  have D7 := Lib.hid hB
  have BW7 := Lib.hid (BW6.out.trans (hB.mono (by omega)))
  have G0_7 := Lib.hid (G0_6.out.later hB)
  clear G0_6
  have X0_7 := Lib.hid (X0_6.out.later hB)
  clear X0_6
  have X1_7 := Lib.hid (X1_6.out.later hB)
  clear X1_6
  have G1_7 := Lib.hid (G1_6.out.later hB)
  clear G1_6
  clear hB
  go_wp2_with fail
  refine (toIntS_any a0 len0 cap0 zs0 _ (H0.out.later BW7.out) sm0 hlc0).mono ?_
  rintro e8 v8 ⟨x8, rfl, hr, hB⟩
  have hz8 := hB.size
  have D8 := Lib.hid hB
  have BW8 := Lib.hid (BW7.out.trans (hB.mono (by omega)))
  have G0_8 := Lib.hid (G0_7.out.later hB)
  clear G0_7
  have X0_8 := Lib.hid (X0_7.out.later hB)
  clear X0_7
  have X1_8 := Lib.hid (X1_7.out.later hB)
  clear X1_7
  have G1_8 := Lib.hid (G1_7.out.later hB)
  clear G1_7
  obtain ⟨pQ0, cQ0, hv, hk, _, hs⟩ := hr.sees c1_len
  rw [HZ0.out] at hv hk
  subst hv
  clear hk hs
  have Q0_8 := Lib.hid hr
  clear hr
  clear hB
  go_wp2_with fail
  refine (eqIntS_same _ _ _ _ _ _ _ _ _ HZ0.out (X0_8.out.seen c1_len).1 (Q0_8.out.seen c1_len).1 (by omega)).mono ?_
  rintro e9 v9 ⟨rfl, hB⟩
  have hz9 := hB.size
  have D9 := Lib.hid hB
  have BW9 := Lib.hid (BW8.out.trans (hB.mono (by omega)))
  have G0_9 := Lib.hid (G0_8.out.later hB)
  clear G0_8
  have X0_9 := Lib.hid (X0_8.out.later hB)
  clear X0_8
  have X1_9 := Lib.hid (X1_8.out.later hB)
  clear X1_8
  have G1_9 := Lib.hid (G1_8.out.later hB)
  clear G1_8
  have Q0_9 := Lib.hid (Q0_8.out.later hB)
  clear Q0_8
  clear hB
  clear Q0_9
  go_wp2_with fail
  refine (toIntS_any a1 len1 cap1 zs1 _ (H1.out.later BW9.out) sm1 hlc1).mono ?_
  rintro e10 v10 ⟨x10, rfl, hr, hB⟩
  have hz10 := hB.size
  have D10 := Lib.hid hB
  have BW10 := Lib.hid (BW9.out.trans (hB.mono (by omega)))
  have G0_10 := Lib.hid (G0_9.out.later hB)
  clear G0_9
  have X0_10 := Lib.hid (X0_9.out.later hB)
  clear X0_9
  have X1_10 := Lib.hid (X1_9.out.later hB)
  clear X1_9
  have G1_10 := Lib.hid (G1_9.out.later hB)
  clear G1_9
  obtain ⟨pQ1, cQ1, hv, hk, _, hs⟩ := hr.sees c1_len
  rw [HZ1.out] at hv hk
  subst hv
  clear hk hs
  have Q1_10 := Lib.hid hr
  clear hr
  clear hB
  go_wp2_with fail
  refine (eqIntS_same _ _ _ _ _ _ _ _ _ HZ1.out (X1_10.out.seen c1_len).1 (Q1_10.out.seen c1_len).1 (by omega)).mono ?_
  rintro e11 v11 ⟨rfl, hB⟩
  have hz11 := hB.size
  have D11 := Lib.hid hB
  have BW11 := Lib.hid (BW10.out.trans (hB.mono (by omega)))
  have G0_11 := Lib.hid (G0_10.out.later hB)
  clear G0_10
  have X0_11 := Lib.hid (X0_10.out.later hB)
  clear X0_10
  have X1_11 := Lib.hid (X1_10.out.later hB)
  clear X1_10
  have G1_11 := Lib.hid (G1_10.out.later hB)
  clear G1_10
  have Q1_11 := Lib.hid (Q1_10.out.later hB)
  clear Q1_10
  clear hB
  clear Q1_11
  go_wp2_with fail
  have HB11 : ∀ g, (Value.slice pX0 len0 cX0).ownBlock = some g → w.heap.size ≤ g := fun g hg => by have := (X0_11.out.lt g hg).1; omega
  refine (markIntS_any _ len0 _ _ (1) _ HZ0.out X0_11.out (by omega) (by omega) (by omega)).mono ?_
  rintro e12 v12 ⟨rfl, hM, hg⟩
  have hz12 := hg.size
  have hap : (Value.slice pG0 n' cG0).ownBlock = none ∨ (Value.slice pG0 n' cG0).ownBlock ≠ (Value.slice pX0 len0 cX0).ownBlock := by
    cases h0 : (Value.slice pG0 n' cG0).ownBlock with
    | none => exact .inl rfl
    | some g => right; intro h1; have q1 := LTG0.out g h0; have q2 := (X0_11.out.lt g h1.symm).1; omega
  have G0_12 := Lib.hid (G0_11.out.apart hg hap)
  clear hap
  have hap : (Value.slice pX1 len1 cX1).ownBlock = none ∨ (Value.slice pX1 len1 cX1).ownBlock ≠ (Value.slice pX0 len0 cX0).ownBlock := by
    cases h0 : (Value.slice pX1 len1 cX1).ownBlock with
    | none => exact .inl rfl
    | some g => right; intro h1; have q1 := LTX0.out g h1.symm; have q2 := (X1_11.out.lt g h0).1; omega
  have X1_12 := Lib.hid (X1_11.out.apart hg hap)
  clear hap
  have hap : (Value.slice pG1 n' cG1).ownBlock = none ∨ (Value.slice pG1 n' cG1).ownBlock ≠ (Value.slice pX0 len0 cX0).ownBlock := by
    cases h0 : (Value.slice pG1 n' cG1).ownBlock with
    | none => exact .inl rfl
    | some g => right; intro h1; have q1 := LTX0.out g h1.symm; have q2 := (G1_11.out.lt g h0).1; omega
  have G1_12 := Lib.hid (G1_11.out.apart hg hap)
  clear hap
  clear G0_11
  clear X0_11
  clear X1_11
  clear G1_11
  have BW12 := Lib.hid (below_of_grown BW11.out hg (by omega) HB11)
  clear HB11
  clear hM hg
  go_wp2_with fail
  have HB12 : ∀ g, (Value.slice pX1 len1 cX1).ownBlock = some g → w.heap.size ≤ g := fun g hg => by have := (X1_12.out.lt g hg).1; omega
  refine (markIntS_any _ len1 _ _ (1 + (len0 : Int)) _ HZ1.out X1_12.out (by omega) (by omega) (by omega)).mono ?_
  rintro e13 v13 ⟨rfl, hM, hg⟩
  have hz13 := hg.size
  have hap : (Value.slice pG0 n' cG0).ownBlock = none ∨ (Value.slice pG0 n' cG0).ownBlock ≠ (Value.slice pX1 len1 cX1).ownBlock := by
    cases h0 : (Value.slice pG0 n' cG0).ownBlock with
    | none => exact .inl rfl
    | some g => right; intro h1; have q1 := LTG0.out g h0; have q2 := (X1_12.out.lt g h1.symm).1; omega
  have G0_13 := Lib.hid (G0_12.out.apart hg hap)
  clear hap
  have hap : (Value.slice pG1 n' cG1).ownBlock = none ∨ (Value.slice pG1 n' cG1).ownBlock ≠ (Value.slice pX1 len1 cX1).ownBlock := by
    cases h0 : (Value.slice pG1 n' cG1).ownBlock with
    | none => exact .inl rfl
    | some g => right; intro h1; have q1 := LTX1.out g h1.symm; have q2 := (G1_12.out.lt g h0).1; omega
  have G1_13 := Lib.hid (G1_12.out.apart hg hap)
  clear hap
  clear G0_12
  clear X1_12
  clear G1_12
  have BW13 := Lib.hid (below_of_grown BW12.out hg (by omega) HB12)
  clear HB12
  clear hM hg
  go_wp2_with fail
  refine (eqIntS_same _ _ _ _ _ _ _ _ _ HN.out (G1_13.out.seen c1_len).1 (G0_13.out.seen c1_len).1 hlen).mono ?_
  rintro e14 v14 ⟨rfl, hB⟩
  have hz14 := hB.size
  have D14 := Lib.hid hB
  have BW14 := Lib.hid (BW13.out.trans (hB.mono (by omega)))
  have G0_14 := Lib.hid (G0_13.out.later hB)
  clear G0_13
  have G1_14 := Lib.hid (G1_13.out.later hB)
  clear G1_13
  clear hB
  go_wp2_with fail
  have HB14 : ∀ g, (Value.slice pG1 n' cG1).ownBlock = some g → w.heap.size ≤ g := fun g hg => by have := (G1_14.out.lt g hg).1; omega
  refine (markIntS_any _ n' _ _ (1) _ HN.out G1_14.out hlen (by omega) (by omega)).mono ?_
  rintro e15 v15 ⟨rfl, hM, hg⟩
  have hz15 := hg.size
  have hap : (Value.slice pG0 n' cG0).ownBlock = none ∨ (Value.slice pG0 n' cG0).ownBlock ≠ (Value.slice pG1 n' cG1).ownBlock := by
    cases h0 : (Value.slice pG0 n' cG0).ownBlock with
    | none => exact .inl rfl
    | some g => right; intro h1; have q1 := LTG0.out g h0; have q2 := (G1_14.out.lt g h1.symm).1; omega
  have G0_15 := Lib.hid (G0_14.out.apart hg hap)
  clear hap
  clear G0_14
  clear G1_14
  have BW15 := Lib.hid (below_of_grown BW14.out hg (by omega) HB14)
  clear HB14
  obtain ⟨am, km, hem, hms⟩ := hM.sees
  simp only [Value.slice.injEq] at hem
  obtain ⟨rfl, -, rfl⟩ := hem
  have M_15 := Lib.hid hms
  clear hms
  clear hM hg
  go_wp2_with fail
  refine (heldIntS_any n' _ _ 1 _ M_15.out hlen (by omega) (by omega)).mono ?_
  rintro e16 v16 ⟨rfl, hB⟩
  have hz16 := hB.size
  have D16 := Lib.hid hB
  have BW16 := Lib.hid (BW15.out.trans (hB.mono (by omega)))
  have G0_16 := Lib.hid (G0_15.out.later hB)
  clear G0_15
  have M_16 := Lib.hid (M_15.out.below hB)
  clear M_15
  clear hB
  go_wp2_with fail
  refine (toIntS_any a0 len0 cap0 zs0 _ (H0.out.later BW16.out) sm0 hlc0).mono ?_
  rintro e17 v17 ⟨x17, rfl, hr, hB⟩
  have hz17 := hB.size
  have D17 := Lib.hid hB
  have BW17 := Lib.hid (BW16.out.trans (hB.mono (by omega)))
  have G0_17 := Lib.hid (G0_16.out.later hB)
  clear G0_16
  have M_17 := Lib.hid (M_16.out.below hB)
  clear M_16
  obtain ⟨pQ0, cQ0, hv, hk, _, hs⟩ := hr.sees c1_len
  rw [HZ0.out] at hv hk
  subst hv
  clear hk hs
  have Q0_17 := Lib.hid hr
  clear hr
  clear hB
  go_wp2_with fail
  refine (toIntS_any a1 len1 cap1 zs1 _ (H1.out.later BW17.out) sm1 hlc1).mono ?_
  rintro e18 v18 ⟨x18, rfl, hr, hB⟩
  have hz18 := hB.size
  have D18 := Lib.hid hB
  have BW18 := Lib.hid (BW17.out.trans (hB.mono (by omega)))
  have G0_18 := Lib.hid (G0_17.out.later hB)
  clear G0_17
  have Q0_18 := Lib.hid (Q0_17.out.later hB)
  clear Q0_17
  have M_18 := Lib.hid (M_17.out.below hB)
  clear M_17
  obtain ⟨pQ1, cQ1, hv, hk, _, hs⟩ := hr.sees c1_len
  rw [HZ1.out] at hv hk
  subst hv
  clear hk hs
  have Q1_18 := Lib.hid hr
  clear hr
  clear hB
  have hq := implSC_any x y _ _ len0 len1 cQ0 cQ1 _ _ zs0 zs1 v18 HZ0.out HZ1.out (Q0_18.out.seen c1_len).1 (Q1_18.out.seen c1_len).1 (by omega) (by omega)
  rw [← HR.out] at hq
  go_wp2_with fail
  refine hq.mono ?_
  clear hq
  rintro e19 v19 ⟨x19, rfl, hr, hB⟩
  have hz19 := hB.size
  have BW19 := Lib.hid (BW18.out.trans (hB.mono (by omega)))
  have G0_19 := Lib.hid (G0_18.out.later hB)
  clear G0_18
  have Q0_19 := Lib.hid (Q0_18.out.later hB)
  clear Q0_18
  have Q1_19 := Lib.hid (Q1_18.out.later hB)
  clear Q1_18
  have M_19 := Lib.hid (M_18.out.below hB)
  clear M_18
  obtain ⟨pG2, cG2, hv, hk, _, hs⟩ := hr.sees c1_len
  rw [HN.out] at hv hk
  subst hv
  clear hk hs
  have G2_19 := Lib.hid hr
  clear hr hB
  go_wp2_with fail
  refine (eqIntS_same _ _ _ _ _ _ _ _ _ HN.out (G2_19.out.seen c1_len).1 (G0_19.out.seen c1_len).1 hlen).mono ?_
  rintro e20 v20 ⟨rfl, hB⟩
  have hz20 := hB.size
  have D20 := Lib.hid hB
  have BW20 := Lib.hid (BW19.out.trans (hB.mono (by omega)))
  have G0_20 := Lib.hid (G0_19.out.later hB)
  clear G0_19
  have Q0_20 := Lib.hid (Q0_19.out.later hB)
  clear Q0_19
  have Q1_20 := Lib.hid (Q1_19.out.later hB)
  clear Q1_19
  have G2_20 := Lib.hid (G2_19.out.later hB)
  clear G2_19
  have M_20 := Lib.hid (M_19.out.below hB)
  clear M_19
  clear hB
  go_wp2_with fail
  refine (heldIntS_any n' _ _ 1 _ M_20.out hlen (by omega) (by omega)).mono ?_
  rintro e21 v21 ⟨rfl, hB⟩
  have hz21 := hB.size
  have D21 := Lib.hid hB
  have BW21 := Lib.hid (BW20.out.trans (hB.mono (by omega)))
  have G0_21 := Lib.hid (G0_20.out.later hB)
  clear G0_20
  have Q0_21 := Lib.hid (Q0_20.out.later hB)
  clear Q0_20
  have Q1_21 := Lib.hid (Q1_20.out.later hB)
  clear Q1_20
  have G2_21 := Lib.hid (G2_20.out.later hB)
  clear G2_20
  have M_21 := Lib.hid (M_20.out.below hB)
  clear M_20
  clear hB
  go_wp2
  go_ret
  exact ⟨rfl, BW21.out⟩
end Go.Proofs.Ytdahpjbpcdfhkaa
