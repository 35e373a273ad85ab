/-
  The program's fundamental solution.
-/
import Derived.Test.YtemnkfigjpphgaaRiv
import Derived.Test.YtemnkfigjpphgaaPel
namespace Go.Proofs.Ytemnkfigjpphgaa
open Go.RowKit
attribute [local simp, local go_sem] past_cell past_frozen past_tape
theorem solS_four {d t u : Int} : SolS d 4 t u ↔ Sol d t u := by
  have e : d * u * u = d * (u * u) := by grind
  unfold SolS Sol
  rw [e]
  constructor
  · rintro ⟨h1, h2, h3⟩; exact ⟨h1, h2, by omega⟩
  · rintro ⟨h1, h2, h3⟩; exact ⟨h1, h2, by omega⟩
theorem smallB_pos {t u : Int} (ht : 0 < t) (hu : 0 < u) : smallB t u = true ↔ Small t u := by
  unfold smallB numB Small
  simp
  omega
theorem ls_true {d t u : Int} (hd : 5 ≤ d) (h : LsR d 4 1000000 t u true) : PFour d t u true := by
  rcases h with ⟨h1, h2, h3, h4⟩ | ⟨_, _, h, _⟩
  · have hs := solS_four.1 h1
    exact .inl ⟨rfl, ⟨hs, fun t' u' h => h3 t' u' (solS_four.2 h)⟩, (smallB_pos hs.1 hs.2.1).1 h4.symm⟩
  · cases h
theorem ls_false {d t u : Int} (hd : 5 ≤ d) (h : LsR d 4 1000000 t u false) : PFour d 0 0 false := by
  refine .inr ⟨rfl, rfl, rfl, fun t' u' hs hsm => ?_⟩
  rcases h with ⟨h1, h2, h3, h4⟩ | ⟨_, _, _, h⟩
  · have hs1 := solS_four.1 h1
    have hu := h3 t' u' (solS_four.2 hs)
    have ht := hs1.mono (by omega) hs hu
    have hsm1 : Small t u := ⟨by have := hsm.1; omega, by have := hsm.2; omega⟩
    have := (smallB_pos hs1.1 hs1.2.1).2 hsm1
    rw [← h4] at this
    cases this
  · have := h t' u' (solS_four.2 hs)
    have := hsm.2
    omega
theorem pf_exists (d : Int) (hd : 0 < d) : ∃ t u ok, PFour d t u ok := by
  by_cases hex : ∃ n : Nat, ∃ t : Int, Sol d t (n : Int) ∧ Small t (n : Int)
  · obtain ⟨n, ⟨t, hs, hsm⟩, hmin⟩ : ∃ n : Nat, (∃ t : Int, Sol d t (n : Int) ∧ Small t (n : Int)) ∧ ∀ m : Nat, m < n → ¬ ∃ t : Int, Sol d t (m : Int) ∧ Small t (m : Int) := by
      classical
      obtain ⟨n, hn⟩ := hex
      induction n using Nat.strongRecOn with
      | ind n ih =>
        by_cases h : ∃ m, m < n ∧ ∃ t : Int, Sol d t (m : Int) ∧ Small t (m : Int)
        · obtain ⟨m, hm, h⟩ := h
          exact ih m hm h
        · exact ⟨n, hn, fun m hm h' => h ⟨m, hm, h'⟩⟩
    refine ⟨t, n, true, .inl ⟨rfl, ⟨hs, fun t' u' hs' => ?_⟩, hsm⟩⟩
    refine Int.le_of_not_gt fun hlt => ?_
    have ht := hs'.mono hd hs (by omega)
    have hu' := hs'.2.1
    refine hmin u'.toNat (by omega) ⟨t', ?_⟩
    have e : ((u'.toNat : Nat) : Int) = u' := by omega
    rw [e]
    exact ⟨hs', ⟨by have := hsm.1; omega, by have := hsm.2; omega⟩⟩
  · refine ⟨0, 0, false, .inr ⟨rfl, rfl, rfl, fun t' u' hs hsm => hex ⟨u'.toNat, t', ?_⟩⟩⟩
    have e : ((u'.toNat : Nat) : Int) = u' := by have := hs.2.1; omega
    rw [e]
    exact ⟨hs, hsm⟩
set_option maxHeartbeats 4000000 in
theorem pellFour_any (d t u : Int) (ok : Bool) (w : World) (hp : posB d = true) (h : PFour d t u ok) :
    Calls Try.prog 49 #[.int .i64 d] w fun en w' => en = .returned (.tuple #[.agg #[.int .i64 t, .int .i64 u], .bool ok]) ∧ Below w.heap.size w w' := by
  obtain ⟨d1, d2⟩ := posB_true hp
  go_enter Try.func49, Try.ntmps49
  go_wp2_with fail
  refine (leastSolution_any d 4 1000000 _ ⟨d1, d2⟩ (.inl rfl) ⟨by omega, by omega⟩).mono ?_
  rintro e1 w1 ⟨⟨t', u', ok', rfl, hl⟩, hB1⟩
  have k1 := (Blk.new w 27 #[.int .i64 0, .int .i64 0]).below hB1
  have b1 : Below w.heap.size w w1 := by repeat (first | with_reducible exact Below.refl _ _ | with_reducible assumption | ((with_reducible refine blA ?_ ?_); (focus (first | omega | (simp <;> omega)))) | (with_reducible refine blD ?_) | (with_reducible refine blN ?_) | ((with_reducible refine blS ?_ ?_); (focus (first | omega | (simp <;> omega)))) | ((with_reducible refine blT (by assumption) ?_ ?_); (focus (first | omega | (simp <;> omega)))))
  have K1 := Lib.hid k1
  have B1 := Lib.hid b1
  have l1 := k1.lt
  clear hB1 k1 b1
  have cK := K1.out.cell
  have fK := K1.out.froz
  have nK : ¬ w.heap.size = w1.heap.size := by omega
  have nK' : ¬ w1.heap.size = w.heap.size := by omega
  cases ok' with
  | true =>
    obtain ⟨rfl, rfl, rfl⟩ := (ls_true d1 hl).unique h
    go_wp2_with fail
    have b1 := B1.out
    refine bodyPost_ret (v := .tuple #[.agg #[.int .i64 t', .int .i64 u'], .bool true]) (by go_light; simp [results, Try.results49, go_sem, *]) rfl ⟨rfl, ?_⟩
    repeat (first | with_reducible exact Below.refl _ _ | with_reducible assumption | ((with_reducible refine blA ?_ ?_); (focus (first | omega | (simp <;> omega)))) | (with_reducible refine blD ?_) | (with_reducible refine blN ?_) | ((with_reducible refine blS ?_ ?_); (focus (first | omega | (simp <;> omega)))) | ((with_reducible refine blT (by assumption) ?_ ?_); (focus (first | omega | (simp <;> omega)))))
  | false =>
    obtain ⟨rfl, rfl, rfl⟩ := (ls_false d1 hl).unique h
    go_wp2_with fail
    have b1 := B1.out
    refine bodyPost_ret (v := .tuple #[.agg #[.int .i64 0, .int .i64 0], .bool false]) (by go_light; simp [results, Try.results49, go_sem, *]) rfl ⟨rfl, ?_⟩
    repeat (first | with_reducible exact Below.refl _ _ | with_reducible assumption | ((with_reducible refine blA ?_ ?_); (focus (first | omega | (simp <;> omega)))) | (with_reducible refine blD ?_) | (with_reducible refine blN ?_) | ((with_reducible refine blS ?_ ?_); (focus (first | omega | (simp <;> omega)))) | ((with_reducible refine blT (by assumption) ?_ ?_); (focus (first | omega | (simp <;> omega)))))
/-- What PellFour returns, for any number. -/
def PF (d t u : Int) (ok : Bool) : Prop := (posB d = true ∧ PFour d t u ok) ∨ (posB d = false ∧ t = 0 ∧ u = 0 ∧ ok = false)
theorem PF.exist (d : Int) : ∃ t u ok, PF d t u ok := by
  cases hp : posB d with
  | true =>
    obtain ⟨t, u, ok, h⟩ := pf_exists d (by have := posB_true hp; omega)
    exact ⟨t, u, ok, .inl ⟨hp, h⟩⟩
  | false => exact ⟨0, 0, false, .inr ⟨hp, rfl, rfl, rfl⟩⟩
set_option maxHeartbeats 4000000 in
theorem implPellFour_any (d t u : Int) (ok : Bool) (w : World) (hd : I64 d) (h : PF d t u ok) :
    Calls Try.prog 10 #[.int .i64 d] w fun en w' => en = .returned (.tuple #[.agg #[.int .i64 t, .int .i64 u], .bool ok]) ∧ Below w.heap.size w w' := by
  rcases h with ⟨hp, h⟩ | ⟨hp, rfl, rfl, rfl⟩
  · go_enter Try.func10, Try.ntmps10
    go_wp2_with (first | (go_at_call 44; refine (isPositiveDisc_any _ _ hd).mono ?_; rintro e w' ⟨rfl, rfl⟩) | (go_at_call 49; refine (pellFour_any _ _ _ _ _ hp h).mono ?_; rintro e w' ⟨rfl, hB⟩; obtain ⟨hC, hF⟩ := bcell hB; have hS := hB.size; (try simp at hS); (try have hSl := Nat.lt_of_succ_le hS); (try have hS0 : w.heap.size < w'.heap.size := by omega); (try have hS1 : w.heap.size + 1 < w'.heap.size := by omega); (try have hS2 : w.heap.size + 1 + 1 < w'.heap.size := by omega); (try have hS3 : w.heap.size + 1 + 1 + 1 < w'.heap.size := by omega)))
    refine bodyPost_ret (v := .tuple #[.agg #[.int .i64 t, .int .i64 u], .bool ok]) (by go_light; simp [results, Try.results10, go_sem, *]) rfl ⟨rfl, ?_⟩
    repeat (first | with_reducible exact Below.refl _ _ | with_reducible assumption | ((with_reducible refine blA ?_ ?_); (focus (first | omega | (simp <;> omega)))) | (with_reducible refine blD ?_) | (with_reducible refine blN ?_) | ((with_reducible refine blS ?_ ?_); (focus (first | omega | (simp <;> omega)))) | ((with_reducible refine blT (by assumption) ?_ ?_); (focus (first | omega | (simp <;> omega)))))
  · go_enter Try.func10, Try.ntmps10
    go_wp2_with (first | (go_at_call 44; refine (isPositiveDisc_any _ _ hd).mono ?_; rintro e w' ⟨rfl, rfl⟩))
    refine bodyPost_ret (v := .tuple #[.agg #[.int .i64 0, .int .i64 0], .bool false]) (by go_light; simp [results, Try.results10, go_sem, *]) rfl ⟨rfl, ?_⟩
    repeat (first | with_reducible exact Below.refl _ _ | with_reducible assumption | ((with_reducible refine blA ?_ ?_); (focus (first | omega | (simp <;> omega)))) | (with_reducible refine blD ?_) | (with_reducible refine blN ?_) | ((with_reducible refine blS ?_ ?_); (focus (first | omega | (simp <;> omega)))) | ((with_reducible refine blT (by assumption) ?_ ?_); (focus (first | omega | (simp <;> omega)))))
end Go.Proofs.Ytemnkfigjpphgaa

/-
  Solutions for -4, both ways.
-/
namespace Go.Proofs.Ytemnkfigjpphgaa
open Go.RowKit
attribute [local simp, local go_sem] past_cell past_frozen past_tape
/-- What PellMinusFour returns, from the least solution for 4. -/
def PMn (d T U t u : Int) (ok : Bool) : Prop := (ok = true ∧ SolM d t u ∧ t * u = U ∧ t * t + 2 = T) ∨ (ok = false ∧ t = 0 ∧ u = 0 ∧ ∀ t' u', ¬ SolM d t' u')
theorem PMn.unique {d T U t u t' u' : Int} {ok ok' : Bool} (h : PMn d T U t u ok) (h' : PMn d T U t' u' ok') : t = t' ∧ u = u' ∧ ok = ok' := by
  rcases h with ⟨rfl, a, b, c⟩ | ⟨rfl, rfl, rfl, a⟩ <;> rcases h' with ⟨rfl, a', b', c'⟩ | ⟨rfl, rfl, rfl, a'⟩
  · have e : t = t' := eq_of_sq (by have := a.1; omega) (by have := a'.1; omega) (by omega)
    subst e
    refine ⟨rfl, ?_, rfl⟩
    exact Int.eq_of_mul_eq_mul_left (show t ≠ 0 by have := a.1; omega) (by omega)
  · exact absurd a (a' _ _)
  · exact absurd a' (a _ _)
  · exact ⟨rfl, rfl, rfl⟩
theorem solM_least {d : Int} (h : ∃ t u, SolM d t u) : ∃ t u, SolM d t u ∧ ∀ t' u', SolM d t' u' → u ≤ u' := by
  obtain ⟨n, ⟨t, hs⟩, hmin⟩ : ∃ n : Nat, (∃ t : Int, SolM d t (n : Int)) ∧ ∀ m : Nat, m < n → ¬ ∃ t : Int, SolM d t (m : Int) := by
    classical
    obtain ⟨t, u, hs⟩ := h
    have hn : ∃ t : Int, SolM d t ((u.toNat : Nat) : Int) := ⟨t, by have e : ((u.toNat : Nat) : Int) = u := by { have := hs.2.1; omega }; rw [e]; exact hs⟩
    generalize u.toNat = n at hn
    induction n using Nat.strongRecOn with
    | ind n ih =>
      by_cases h : ∃ m, m < n ∧ ∃ t : Int, SolM d t (m : Int)
      · obtain ⟨m, hm, h⟩ := h
        exact ih m hm h
      · exact ⟨n, hn, fun m hm h' => h ⟨m, hm, h'⟩⟩
  refine ⟨t, n, hs, fun t' u' hs' => Int.le_of_not_gt fun hlt => ?_⟩
  have hu' := hs'.2.1
  refine hmin u'.toNat (by omega) ⟨t', ?_⟩
  have e : ((u'.toNat : Nat) : Int) = u' := by omega
  rw [e]
  exact hs'
theorem PMn.exist {d T U : Int} (hd : 5 ≤ d) (hL : Least d T U) : ∃ t u ok, PMn d T U t u ok := by
  by_cases h : ∃ t u, SolM d t u
  · obtain ⟨t, u, hs, hm⟩ := solM_least h
    obtain ⟨h1, h2⟩ := minus_square hd hs hm hL
    exact ⟨t, u, true, .inl ⟨rfl, hs, h1, h2⟩⟩
  · exact ⟨0, 0, false, .inr ⟨rfl, rfl, rfl, fun t' u' hs => h ⟨t', u', hs⟩⟩⟩
theorem solS_minus {d t u : Int} : SolS d (-4) t u ↔ SolM d t u := by
  have e : d * u * u = d * (u * u) := by grind
  unfold SolS SolM
  rw [e]
  constructor
  · rintro ⟨h1, h2, h3⟩; exact ⟨h1, h2, by omega⟩
  · rintro ⟨h1, h2, h3⟩; exact ⟨h1, h2, by omega⟩
theorem le_mul_pos {a b : Int} (ha : 0 < a) (hb : 0 < b) : b ≤ a * b ∧ a ≤ a * b := by
  have h1 := Int.mul_le_mul_of_nonneg_right (show 1 ≤ a by omega) (show 0 ≤ b by omega)
  have h2 := Int.mul_le_mul_of_nonneg_left (show 1 ≤ b by omega) (show 0 ≤ a by omega)
  rw [Int.one_mul] at h1
  rw [Int.mul_one] at h2
  exact ⟨h1, h2⟩
theorem pm_impl {d T U t u : Int} {ok : Bool} (hd : 5 ≤ d) (hL : Least d T U) (hs : Small T U) (h : LsR d (-4) U t u ok) : PMn d T U (if ok then t else 0) (if ok then u else 0) ok := by
  rcases h with ⟨h1, h2, h3, h4⟩ | ⟨_, _, rfl, h⟩
  · have hm := solS_minus.1 h1
    obtain ⟨e1, e2⟩ := minus_square hd hm (fun t' u' h => h3 t' u' (solS_minus.2 h)) hL
    have hok : ok = true := by
      rw [h4]
      refine (smallB_pos hm.1 hm.2.1).2 ⟨?_, by have := hs.2; omega⟩
      obtain ⟨k1, k2⟩ := le_mul_pos hm.1 hm.1
      have := hs.1
      omega
    rw [hok]
    exact .inl ⟨rfl, hm, e1, e2⟩
  · refine .inr ⟨rfl, rfl, rfl, fun t' u' hs' => ?_⟩
    obtain ⟨t0, u0, k1, k2⟩ := solM_least ⟨t', u', hs'⟩
    obtain ⟨e1, e2⟩ := minus_square hd k1 k2 hL
    have := h t0 u0 (solS_minus.2 k1)
    obtain ⟨q1, q2⟩ := le_mul_pos k1.1 k1.2.1
    omega
/-- What PellMinusFour returns, for any number. -/
def PM (d t u : Int) (ok : Bool) : Prop := ∃ T U okf, PF d T U okf ∧ ((okf = true ∧ PMn d T U t u ok) ∨ (okf = false ∧ t = 0 ∧ u = 0 ∧ ok = false))
theorem PF.unique {d t u t' u' : Int} {ok ok' : Bool} (h : PF d t u ok) (h' : PF d t' u' ok') : t = t' ∧ u = u' ∧ ok = ok' := by
  rcases h with ⟨h1, h2⟩ | ⟨h1, rfl, rfl, rfl⟩ <;> rcases h' with ⟨k1, k2⟩ | ⟨k1, rfl, rfl, rfl⟩
  · exact h2.unique k2
  · rw [h1] at k1; cases k1
  · rw [h1] at k1; cases k1
  · exact ⟨rfl, rfl, rfl⟩
theorem PF.true {d T U : Int} (h : PF d T U true) : posB d = true ∧ Least d T U ∧ Small T U := by
  rcases h with ⟨h1, h2⟩ | ⟨_, _, _, h⟩
  · rcases h2 with ⟨_, h2, h3⟩ | ⟨h, _⟩
    · exact ⟨h1, h2, h3⟩
    · cases h
  · cases h
theorem PM.exist (d : Int) : ∃ t u ok, PM d t u ok := by
  obtain ⟨T, U, okf, h⟩ := PF.exist d
  cases okf with
  | true =>
    obtain ⟨h1, h2, h3⟩ := h.true
    obtain ⟨t, u, ok, k⟩ := PMn.exist (posB_true h1).1 h2
    exact ⟨t, u, ok, T, U, true, h, .inl ⟨rfl, k⟩⟩
  | false => exact ⟨0, 0, false, T, U, false, h, .inr ⟨rfl, rfl, rfl, rfl⟩⟩
set_option maxHeartbeats 4000000 in
theorem implPellMinusFour_any (d t u : Int) (ok : Bool) (w : World) (hd : I64 d) (h : PM d t u ok) :
    Calls Try.prog 12 #[.int .i64 d] w fun en w' => en = .returned (.tuple #[.agg #[.int .i64 t, .int .i64 u], .bool ok]) ∧ Below w.heap.size w w' := by
  obtain ⟨T, U, okf, hf, h⟩ := h
  have hcall := Lib.hid fun w1 => implPellFour_any d T U okf w1 hd hf
  rcases h with ⟨rfl, hm⟩ | ⟨rfl, rfl, rfl, rfl⟩
  · obtain ⟨hp, hL, hSm⟩ := hf.true
    obtain ⟨d1, d2⟩ := posB_true hp
    go_enter Try.func12, Try.ntmps12
    go_wp2_with (first | (go_at_call 10; refine (hcall.out _).mono ?_; rintro e w' ⟨rfl, hB⟩; obtain ⟨hC, hF⟩ := bcell hB; have hS := hB.size; (try simp at hS); (try have hSl := Nat.lt_of_succ_le hS); (try have hS0 : w.heap.size < w'.heap.size := by omega); (try have hS1 : w.heap.size + 1 < w'.heap.size := by omega); (try have hS2 : w.heap.size + 1 + 1 < w'.heap.size := by omega); (try have hS3 : w.heap.size + 1 + 1 + 1 < w'.heap.size := by omega)))
    obtain ⟨_, hU, _⟩ := hL.1
    have hk := ((Blk.new w 27 #[.int .i64 0, .int .i64 0]).below hB).alloc (.cells #[.int .i64 T, .int .i64 U] 27)
    have hb : Below w.heap.size w (w'.alloc (.cells #[.int .i64 T, .int .i64 U] 27)) := by repeat (first | with_reducible exact Below.refl _ _ | with_reducible assumption | ((with_reducible refine blA ?_ ?_); (focus (first | omega | (simp <;> omega)))) | (with_reducible refine blD ?_) | (with_reducible refine blN ?_) | ((with_reducible refine blS ?_ ?_); (focus (first | omega | (simp <;> omega)))) | ((with_reducible refine blT (by assumption) ?_ ?_); (focus (first | omega | (simp <;> omega)))))
    refine (leastSolution_any d (-4) U _ ⟨d1, d2⟩ (.inr rfl) ⟨by omega, by have := hSm.2; omega⟩).mono ?_
    rintro e2 w2 ⟨⟨t', u', ok', rfl, hl⟩, hB2⟩
    have hk2 := hk.below hB2
    have K2 := Lib.hid (show Below w.heap.size w w2 from hb.trans (hB2.mono hb.size))
    have c2 := hk2.cell
    have f2 := hk2.froz
    have l2 := hk2.lt
    have nK : ¬ w.heap.size = w2.heap.size := by omega
    have nK' : ¬ w2.heap.size = w.heap.size := by omega
    clear hk hb hk2 hB2 hB hC hF hcall hf
    obtain ⟨e1, e2, e3⟩ := (pm_impl d1 hL hSm hl).unique hm
    clear hl hm hL hSm
    cases ok' with
    | true =>
      simp only [if_true] at e1 e2
      subst e1 e2 e3
      go_wp2_with fail
      have b2 := K2.out
      refine bodyPost_ret (v := .tuple #[.agg #[.int .i64 t', .int .i64 u'], .bool true]) (by go_light; simp [results, Try.results12, go_sem, *]) rfl ⟨rfl, ?_⟩
      repeat (first | with_reducible exact Below.refl _ _ | with_reducible assumption | ((with_reducible refine blA ?_ ?_); (focus (first | omega | (simp <;> omega)))) | (with_reducible refine blD ?_) | (with_reducible refine blN ?_) | ((with_reducible refine blS ?_ ?_); (focus (first | omega | (simp <;> omega)))) | ((with_reducible refine blT (by assumption) ?_ ?_); (focus (first | omega | (simp <;> omega)))))
    | false =>
      simp only [Bool.false_eq_true, if_false] at e1 e2
      subst e1 e2 e3
      go_wp2_with fail
      have b2 := K2.out
      refine bodyPost_ret (v := .tuple #[.agg #[.int .i64 0, .int .i64 0], .bool false]) (by go_light; simp [results, Try.results12, go_sem, *]) rfl ⟨rfl, ?_⟩
      repeat (first | with_reducible exact Below.refl _ _ | with_reducible assumption | ((with_reducible refine blA ?_ ?_); (focus (first | omega | (simp <;> omega)))) | (with_reducible refine blD ?_) | (with_reducible refine blN ?_) | ((with_reducible refine blS ?_ ?_); (focus (first | omega | (simp <;> omega)))) | ((with_reducible refine blT (by assumption) ?_ ?_); (focus (first | omega | (simp <;> omega)))))
  · go_enter Try.func12, Try.ntmps12
    go_wp2_with (first | (go_at_call 10; refine (hcall.out _).mono ?_; rintro e w' ⟨rfl, hB⟩; obtain ⟨hC, hF⟩ := bcell hB; have hS := hB.size; (try simp at hS); (try have hSl := Nat.lt_of_succ_le hS); (try have hS0 : w.heap.size < w'.heap.size := by omega); (try have hS1 : w.heap.size + 1 < w'.heap.size := by omega); (try have hS2 : w.heap.size + 1 + 1 < w'.heap.size := by omega); (try have hS3 : w.heap.size + 1 + 1 + 1 < w'.heap.size := by omega)))
    refine bodyPost_ret (v := .tuple #[.agg #[.int .i64 0, .int .i64 0], .bool false]) (by go_light; simp [results, Try.results12, go_sem, *]) rfl ⟨rfl, ?_⟩
    repeat (first | with_reducible exact Below.refl _ _ | with_reducible assumption | ((with_reducible refine blA ?_ ?_); (focus (first | omega | (simp <;> omega)))) | (with_reducible refine blD ?_) | (with_reducible refine blN ?_) | ((with_reducible refine blS ?_ ?_); (focus (first | omega | (simp <;> omega)))) | ((with_reducible refine blT (by assumption) ?_ ?_); (focus (first | omega | (simp <;> omega)))))
end Go.Proofs.Ytemnkfigjpphgaa

/-
  Reduction of indefinite forms: what a step does, and that a cycle comes back. Plain mathematics.
-/
namespace Go.Proofs.Ytemnkfigjpphgaa
/-- Up to where the neighbour's middle coefficient goes. -/
def topR (r : Int) (f : Fm) : Int := if (f.2.2.natAbs : Int) ≤ r then r else (f.2.2.natAbs : Int)
def nbg (r : Int) (f : Fm) : Fm := nb (topR r f) f
def nmg (r : Int) (f : Fm) : Mt := nm (topR r f) f
def cyB (r : Int) (f : Fm) : Bool := decide (0 < f.2.1 ∧ f.2.1 ≤ r ∧ r - f.2.1 < 2 * (f.1.natAbs : Int) ∧ 2 * (f.1.natAbs : Int) ≤ r + f.2.1)
theorem cyB_iff {r : Int} {f : Fm} : cyB r f = true ↔ Cy r f := by
  unfold cyB
  rw [decide_eq_true_eq]
  exact ⟨fun ⟨a, b, c, d⟩ => ⟨a, b, c, d⟩, fun ⟨a, b, c, d⟩ => ⟨a, b, c, d⟩⟩
theorem nbg_disc (r : Int) (f : Fm) : fdisc (nbg r f) = fdisc f := nb_disc _ f
theorem fact_nmg (r : Int) (f : Fm) : fact f (nmg r f) = nbg r f := rfl
/-- The outer coefficients are not 0. -/
theorem outer {r : Int} {f : Fm} (hr : Rt r (fdisc f)) : f.1 ≠ 0 ∧ f.2.2 ≠ 0 := by
  have hn := hr.nsq
  constructor
  · intro e
    refine hn f.2.1 ?_
    unfold fdisc
    rw [e]; grind
  · intro e
    refine hn f.2.1 ?_
    unfold fdisc
    rw [e]; grind
/-- The neighbour's middle coefficient. -/
theorem nbg_mid (r : Int) (f : Fm) (hc : f.2.2 ≠ 0) : (nbg r f).1 = f.2.2 ∧ topR r f - 2 * (f.2.2.natAbs : Int) < (nbg r f).2.1 ∧ (nbg r f).2.1 ≤ topR r f := by
  unfold nbg
  rw [nb_val]
  simp only [nj]
  have hc1 : 1 ≤ (f.2.2.natAbs : Int) := by omega
  have hq := Int.mul_ediv_add_emod (topR r f + f.2.1) (2 * (f.2.2.natAbs : Int))
  have hm0 := Int.emod_nonneg (topR r f + f.2.1) (show 2 * (f.2.2.natAbs : Int) ≠ 0 by omega)
  have hm1 := Int.emod_lt_of_pos (topR r f + f.2.1) (show 0 < 2 * (f.2.2.natAbs : Int) by omega)
  generalize 2 * (f.2.2.natAbs : Int) * ((topR r f + f.2.1) / (2 * (f.2.2.natAbs : Int))) = z at *
  refine ⟨?_, by omega, by omega⟩
  first | rfl | trivial
theorem natAbs_mul4 {a c : Int} : 4 * ((a.natAbs : Int) * (c.natAbs : Int)) = ((4 * a * c).natAbs : Int) := by
  rw [Int.natAbs_mul, Int.natAbs_mul]
  push_cast
  rw [Int.mul_assoc]
theorem lt_of_mul4 {a c k : Int} (ha : 0 < a) (h : 4 * (a * c) < 4 * (a * k)) : c < k := Int.lt_of_mul_lt_mul_left (show a * c < a * k by omega) (by omega)
theorem natAbs_sq (b : Int) : (b.natAbs : Int) * (b.natAbs : Int) = b * b := by
  rcases Int.natAbs_eq b with e | e
  · rw [← e]
  · have e' : (b.natAbs : Int) = -b := by omega
    rw [e', Int.neg_mul_neg]
/-- A step that does not end in the cycle makes the last coefficient smaller. -/
theorem nbg_less {r : Int} {f : Fm} (hr : Rt r (fdisc f)) (hn : ¬ Cy r (nbg r f)) : ((nbg r f).2.2.natAbs : Int) < (f.2.2.natAbs : Int) := by
  obtain ⟨_, hc⟩ := outer hr
  obtain ⟨m1, m2, m3⟩ := nbg_mid r f hc
  have hd := nbg_disc r f
  have r0 := hr.r0
  have hlo := hr.lo
  have hhi := hr.hi
  rw [← hd] at hlo hhi
  generalize nbg r f = g at *
  obtain ⟨A, B, C⟩ := g
  simp only at m1 m2 m3 ⊢
  unfold topR at m2 m3
  rw [← m1] at hc m2 m3 ⊢
  have hA1 : 1 ≤ (A.natAbs : Int) := by omega
  have e4 := natAbs_mul4 (a := A) (c := C)
  simp only [fdisc] at hlo hhi
  have hbb := natAbs_sq B
  have hrr : 0 ≤ r * r := sq_pos
  have hnn : 0 ≤ (C.natAbs : Int) := by omega
  have hn' : ¬ (0 < B ∧ B ≤ r ∧ r - B < 2 * (A.natAbs : Int) ∧ 2 * (A.natAbs : Int) ≤ r + B) := fun ⟨x, y, z, w⟩ => hn ⟨x, y, z, w⟩
  clear hn hd
  generalize (A.natAbs : Int) = a at *
  generalize (C.natAbs : Int) = c at *
  generalize hβ : (B.natAbs : Int) = β at *
  rcases (show r < a ∨ a ≤ r by omega) with hra | hra
  · rw [if_neg (by omega)] at m2 m3
    -- |B| ≤ a
    have k1 := sq_le (a := β) (b := a) (by omega) (by omega)
    have k2 := sq_le (a := r + 1) (b := a) (by omega) (by omega)
    have hβ0 : 0 ≤ β * β := sq_pos
    have k3 : 4 * (a * c) ≤ a * a := by omega
    refine lt_of_mul4 (a := a) (by omega) ?_
    have := Int.mul_pos (show 0 < a by omega) (show 0 < a by omega)
    omega
  · rw [if_pos hra] at m2 m3
    have h2 : r + 1 + β ≤ 2 * a := by omega
    rcases (show β ≤ r ∨ r < β by omega) with hb | hb
    · have k1 := sq_le (a := β) (b := r) (by omega) hb
      have k2 : (r + 1 - β) * (r + 1 + β) ≤ (r + 1 - β) * (2 * a) := Int.mul_le_mul_of_nonneg_left h2 (by omega)
      have k3 : (r + 1 - β) * (r + 1 + β) = (r + 1) * (r + 1) - β * β := by grind
      have k4 : 4 * (a * c) < (r + 1 - β) * (2 * a) := by omega
      have k5 : (r + 1 - β) * (2 * a) ≤ (2 * a) * (2 * a) := Int.mul_le_mul_of_nonneg_right (by omega) (by omega)
      refine lt_of_mul4 (a := a) (by omega) ?_
      have : (2 * a) * (2 * a) = 4 * (a * a) := by grind
      omega
    · have k1 := sq_le (a := r) (b := β) (by omega) (by omega)
      have k2 : (β - r) * (β + r) ≤ (β - r) * (2 * a) := Int.mul_le_mul_of_nonneg_left (by omega) (by omega)
      have k3 : (β - r) * (β + r) = β * β - r * r := by grind
      have k6 := sq_le (a := r + 1) (b := β) (by omega) (by omega)
      have k4 : 4 * (a * c) < (β - r) * (2 * a) := by omega
      have k5 : (β - r) * (2 * a) ≤ (2 * a) * (2 * a) := Int.mul_le_mul_of_nonneg_right (by omega) (by omega)
      refine lt_of_mul4 (a := a) (by omega) ?_
      have : (2 * a) * (2 * a) = 4 * (a * a) := by grind
      omega
/-- Forms within bounds, of a positive discriminant. -/
structure Gd (r d : Int) (f : Fm) : Prop where
  a : -1000000 ≤ f.1 ∧ f.1 ≤ 1000000
  b : -1000000 ≤ f.2.1 ∧ f.2.1 ≤ 1000000
  c : -1000000 ≤ f.2.2 ∧ f.2.2 ≤ 1000000
  ds : fdisc f = d
  rt : Rt r d
  r31 : r ≤ 31
theorem Gd.root {r d : Int} {f : Fm} (h : Gd r d f) : Rt r (fdisc f) := by rw [h.ds]; exact h.rt
theorem Gd.next {r d : Int} {f : Fm} (h : Gd r d f) : Gd r d (nbg r f) ∧ -500000 ≤ nj (topR r f) f ∧ nj (topR r f) f ≤ 1000000 := by
  obtain ⟨_, hc⟩ := outer h.root
  obtain ⟨m1, m2, m3⟩ := nbg_mid r f hc
  have hd := nbg_disc r f
  obtain ⟨b1, b2⟩ := h.b
  obtain ⟨c1, c2⟩ := h.c
  have r31 := h.r31
  have r0 := h.rt.r0
  have hlo := h.rt.lo
  have hhi := h.rt.hi
  have hj : -500000 ≤ nj (topR r f) f ∧ nj (topR r f) f ≤ 1000000 := by
    have ht : 0 < topR r f ∧ topR r f ≤ 1000000 := by unfold topR; split <;> omega
    unfold nj
    generalize topR r f = t at *
    have hcc : 1 ≤ (f.2.2.natAbs : Int) := by omega
    generalize (f.2.2.natAbs : Int) = c at *
    constructor
    · refine Int.le_ediv_of_mul_le (by omega) ?_
      have : (-500000) * (2 * c) ≤ (-500000) * 2 := by omega
      omega
    · refine Int.le_of_lt_add_one (Int.ediv_lt_of_lt_mul (by omega) ?_)
      have := Int.mul_le_mul_of_nonneg_left (show 2 ≤ 2 * c by omega) (show (0 : Int) ≤ 1000000 + 1 by omega)
      omega
  refine ⟨⟨by rw [m1]; exact h.c, ?_, ?_, by rw [hd]; exact h.ds, h.rt, h.r31⟩, hj⟩
  · unfold topR at m2 m3
    split at m2 <;> split at m3 <;> omega
  · have hdd : fdisc (nbg r f) = d := by rw [hd]; exact h.ds
    generalize nbg r f = g at *
    obtain ⟨A, B, C⟩ := g
    simp only at m1 m2 m3 ⊢
    rw [← m1] at hc c1 c2
    unfold topR at m2 m3
    rw [← m1] at m2 m3
    have e4 := natAbs_mul4 (a := A) (c := C)
    simp only [fdisc] at hdd
    have hbb := natAbs_sq B
    have hA1 : 1 ≤ (A.natAbs : Int) := by omega
    have hc0 : 0 ≤ (C.natAbs : Int) := by omega
    have hfin : (C.natAbs : Int) ≤ 1000000 := by
      rcases (show r < A.natAbs ∨ (A.natAbs : Int) ≤ r by omega) with hra | hra
      · rw [if_neg (by omega)] at m2 m3
        have k1 := sq_le (a := (B.natAbs : Int)) (b := (A.natAbs : Int)) (by omega) (by omega)
        have k2 := sq_le (a := r + 1) (b := (A.natAbs : Int)) (by omega) (by omega)
        have hβ0 : 0 ≤ (B.natAbs : Int) * B.natAbs := sq_pos
        have hrr : 0 ≤ r * r := sq_pos
        have k3 : 4 * ((A.natAbs : Int) * C.natAbs) ≤ A.natAbs * A.natAbs := by omega
        have k4 : (A.natAbs : Int) * C.natAbs ≤ A.natAbs * A.natAbs := by
          have := Int.mul_nonneg (show 0 ≤ (A.natAbs : Int) by omega) hc0
          omega
        have := Int.le_of_mul_le_mul_left k4 (by omega)
        omega
      · rw [if_pos hra] at m2 m3
        have k1 := sq_le (a := (B.natAbs : Int)) (b := 31) (by omega) (by omega)
        have hβ0 : 0 ≤ (B.natAbs : Int) * B.natAbs := sq_pos
        have hrr : 0 ≤ r * r := sq_pos
        have k2 := sq_le (a := r + 1) (b := 32) (by omega) (by omega)
        have k3 := Int.mul_le_mul_of_nonneg_right hA1 hc0
        omega
    omega
/-- In the cycle the bound is the root. -/
theorem Cy.top {r : Int} {f : Fm} (h : Cy r f) (hr : Rt r (fdisc f)) : topR r f = r := by
  obtain ⟨h1, h2, h3, h4, h5⟩ := h.facts hr
  have br := h.br
  have b0 := h.b0
  have lo := h.lo
  have hi := h.hi
  unfold topR
  split
  · rfl
  · rename_i hgt
    exfalso
    have hlo := hr.lo
    have hhi := hr.hi
    obtain ⟨A, B, C⟩ := f
    simp only [fdisc] at *
    have e4 := natAbs_mul4 (a := A) (c := C)
    have e5 : 4 * (A * C) = 4 * A * C := by grind
    have hneg : ((4 * A * C).natAbs : Int) = -(4 * A * C) := by omega
    rw [hneg] at e4
    generalize (A.natAbs : Int) = a at *
    generalize (C.natAbs : Int) = c at *
    -- 4 a c = d - B² < (r+1)² - B² = (r + 1 - B)(r + 1 + B) ≤ 2 a (r + 1 + B)
    have k1 : (r + 1 - B) * (r + 1 + B) ≤ (2 * a) * (r + 1 + B) := Int.mul_le_mul_of_nonneg_right (by omega) (by omega)
    have k2 : (r + 1 - B) * (r + 1 + B) = (r + 1) * (r + 1) - B * B := by grind
    have k3 : (2 * a) * (2 * c) < (2 * a) * (r + 1 + B) := by
      have : (2 * a) * (2 * c) = 4 * (a * c) := by grind
      omega
    have := Int.lt_of_mul_lt_mul_left k3 (by omega)
    omega
theorem Cy.nbg {r : Int} {f : Fm} (h : Cy r f) (hr : Rt r (fdisc f)) : nbg r f = nb r f ∧ nmg r f = nm r f := by
  unfold Go.Proofs.Ytemnkfigjpphgaa.nbg nmg
  rw [h.top hr]
  exact ⟨rfl, rfl⟩
/-- The step is injective on the cycle. -/
theorem nb_inj {r : Int} {f g : Fm} (h : Cy r f) (hr : Rt r (fdisc f)) (h' : Cy r g) (hd : fdisc g = fdisc f) (he : nb r f = nb r g) : f = g := by
  have hr' : Rt r (fdisc g) := by rw [hd]; exact hr
  have hb : ∀ {f : Fm}, Cy r f → Rt r (fdisc f) → r < 2 * (f.2.2.natAbs : Int) + f.2.1 := by
    intro f h hr
    obtain ⟨h1, h2, h3, h4, h5⟩ := h.facts hr
    have br := h.br
    have b0 := h.b0
    have hi := h.hi
    have hlo := hr.lo
    obtain ⟨A, B, C⟩ := f
    simp only [fdisc] at *
    have e4 := natAbs_mul4 (a := A) (c := C)
    have e5 : 4 * (A * C) = 4 * A * C := by grind
    have hneg : ((4 * A * C).natAbs : Int) = -(4 * A * C) := by omega
    rw [hneg] at e4
    generalize (A.natAbs : Int) = a at *
    generalize (C.natAbs : Int) = c at *
    refine Int.lt_of_not_ge fun hle => ?_
    have k1 : (2 * c) * (2 * a) ≤ (r - B) * (2 * a) := Int.mul_le_mul_of_nonneg_right (by omega) (by omega)
    have k2 : (r - B) * (2 * a) ≤ (r - B) * (r + B) := Int.mul_le_mul_of_nonneg_left (by omega) (by omega)
    have k3 : (r - B) * (r + B) = r * r - B * B := by grind
    have k4 : (2 * c) * (2 * a) = 4 * (a * c) := by grind
    omega
  have b1 := hb h hr
  have b2 := hb h' hr'
  have br1 := h.br
  have br2 := h'.br
  have hc0 := (outer hr).2
  rw [nb_val, nb_val] at he
  obtain ⟨A, B, C⟩ := f
  obtain ⟨A', B', C'⟩ := g
  simp only [Prod.mk.injEq, fdisc] at *
  obtain ⟨rfl, e2, _⟩ := he
  generalize hj : nj r (A, B, C) = j at *
  generalize hj' : nj r (A', B', C) = j' at *
  have hc1 : 1 ≤ (C.natAbs : Int) := by omega
  have hBB : B = B' := by
    generalize (C.natAbs : Int) = c at *
    have e3 : B - B' = 2 * c * (j - j') := by grind
    rcases (show j - j' = 0 ∨ 1 ≤ j - j' ∨ j - j' ≤ -1 by omega) with h0 | h0 | h0
    · rw [h0, Int.mul_zero] at e3; omega
    · have := Int.mul_le_mul_of_nonneg_left h0 (show 0 ≤ 2 * c by omega)
      omega
    · have := Int.mul_le_mul_of_nonneg_left h0 (show 0 ≤ 2 * c by omega)
      omega
  subst hBB
  have e6 : C * A = C * A' := by
    have : 4 * A * C = 4 * A' * C := by omega
    have e7 : 4 * A * C = 4 * (C * A) := by grind
    have e8 : 4 * A' * C = 4 * (C * A') := by grind
    omega
  exact ⟨Int.eq_of_mul_eq_mul_left hc0 e6, rfl, rfl⟩
theorem nbn_back {r : Int} {f : Fm} (h : Cy r f) (hr : Rt r (fdisc f)) (d : Nat) : ∀ i, nbn r (i + d) f = nbn r i f → nbn r d f = f
  | 0, e => by rw [Nat.zero_add] at e; exact e
  | i + 1, e => by
    refine nbn_back h hr d i ?_
    rw [show i + 1 + d = (i + d) + 1 by omega, nbn_succ, nbn_succ] at e
    obtain ⟨c1, c2⟩ := h.nth (i + d) hr
    obtain ⟨c3, c4⟩ := h.nth i hr
    refine nb_inj c1 c2 c3 ?_ e
    rw [← fact_nmn r i f, ← fact_nmn r (i + d) f, fdisc_fact, fdisc_fact, nmn_det, nmn_det]
theorem nbn_disc (r : Int) (n : Nat) (f : Fm) : fdisc (nbn r n f) = fdisc f := by
  rw [← fact_nmn, fdisc_fact, nmn_det]; omega
theorem pigeonN : ∀ (N : Nat) (f : Nat → Nat), (∀ i, i ≤ N → f i < N) → ∃ i j, i < j ∧ j ≤ N ∧ f i = f j := by
  intro N
  induction N with
  | zero => intro f h; exact absurd (h 0 (Nat.le_refl _)) (by omega)
  | succ N ih =>
    intro f h
    by_cases hv : ∃ i, i ≤ N ∧ f i = f (N + 1)
    · obtain ⟨i, hi, he⟩ := hv
      exact ⟨i, N + 1, by omega, by omega, he⟩
    · have hne : ∀ i, i ≤ N → f i ≠ f (N + 1) := fun i hi he => hv ⟨i, hi, he⟩
      obtain ⟨i, j, hij, hj, he⟩ := ih (fun i => if f i = N then f (N + 1) else f i) (fun i hi => by
        have h1 := h i (by omega)
        have h2 := hne i hi
        have h3 := h (N + 1) (by omega)
        show (if f i = N then f (N + 1) else f i) < N
        split <;> omega)
      refine ⟨i, j, hij, by omega, ?_⟩
      have h2 := hne i (by omega)
      have h3 := hne j hj
      have he' : (if f i = N then f (N + 1) else f i) = (if f j = N then f (N + 1) else f j) := he
      split at he' <;> split at he' <;> omega
def ccode (f : Fm) : Nat := ((f.1 + 31) * 32 + f.2.1).toNat
/-- The cycle comes back. -/
theorem nbn_period {r : Int} {f : Fm} (h : Cy r f) (hr : Rt r (fdisc f)) (h31 : r ≤ 31) : ∃ n, 1 ≤ n ∧ n ≤ 2100 ∧ nbn r n f = f := by
  have hb : ∀ i, -31 ≤ (nbn r i f).1 ∧ (nbn r i f).1 ≤ 31 ∧ 0 < (nbn r i f).2.1 ∧ (nbn r i f).2.1 ≤ 31 := by
    intro i
    obtain ⟨⟨x1, x2, x3, x4⟩, _⟩ := h.nth i hr
    omega
  obtain ⟨i, j, hij, hj, he⟩ := pigeonN 2100 (fun k => ccode (nbn r k f)) (fun k _ => by
    have := hb k
    show ccode _ < _
    unfold ccode
    omega)
  refine ⟨j - i, by omega, by omega, nbn_back h hr (j - i) i ?_⟩
  rw [show i + (j - i) = j by omega]
  have hi := hb i
  have hj2 := hb j
  have he' : ccode (nbn r i f) = ccode (nbn r j f) := he
  unfold ccode at he'
  have d1 := nbn_disc r i f
  have d2 := nbn_disc r j f
  obtain ⟨_, q⟩ := h.nth i hr
  have hA := (outer q).1
  generalize nbn r i f = x at *
  generalize nbn r j f = y at *
  obtain ⟨x1, x2, x3⟩ := x
  obtain ⟨y1, y2, y3⟩ := y
  simp only [fdisc] at *
  have a1 : x1 = y1 := by omega
  have a2 : x2 = y2 := by omega
  subst a1 a2
  have : x1 * x3 = x1 * y3 := by
    have e7 : 4 * x1 * x3 = 4 * (x1 * x3) := by grind
    have e8 : 4 * x1 * y3 = 4 * (x1 * y3) := by grind
    omega
  rw [Int.eq_of_mul_eq_mul_left hA this]
/-- The first return. -/
theorem nbn_first {r : Int} {f : Fm} (h : Cy r f) (hr : Rt r (fdisc f)) (h31 : r ≤ 31) : ∃ n, 1 ≤ n ∧ n ≤ 2100 ∧ nbn r n f = f ∧ ∀ k, 0 < k → k < n → nbn r k f ≠ f := by
  obtain ⟨n, n1, n2, n3⟩ := nbn_period h hr h31
  clear hr h31 h
  induction n using Nat.strongRecOn with
  | _ n ih =>
    by_cases hx : ∃ k, 0 < k ∧ k < n ∧ nbn r k f = f
    · obtain ⟨k, k1, k2, k3⟩ := hx
      exact ih k k2 k1 (by omega) k3
    · exact ⟨n, n1, n2, n3, fun k k1 k2 k3 => hx ⟨k, k1, k2, k3⟩⟩
theorem nbn_mul {r : Int} {f : Fm} {n : Nat} (h : nbn r n f = f) : ∀ k, nbn r (k * n) f = f
  | 0 => by rw [Nat.zero_mul]; rfl
  | k + 1 => by rw [Nat.succ_mul, nbn_add, nbn_mul h k, h]
theorem nbn_mod {r : Int} {f : Fm} {n : Nat} (h : nbn r n f = f) (i : Nat) : nbn r i f = nbn r (i % n) f := by
  have : i = (i / n) * n + i % n := by rw [Nat.mul_comm]; exact (Nat.div_add_mod i n).symm
  conv => lhs; rw [this]
  rw [nbn_add, nbn_mul h]
/-- The forms of a cycle. -/
def cyc (r : Int) (n : Nat) (f : Fm) : List Fm := (List.range n).map fun i => nbn r i f
theorem cyc_succ (r : Int) (n : Nat) (f : Fm) : cyc r (n + 1) f = cyc r n f ++ [nbn r n f] := by
  unfold cyc; rw [List.range_succ, List.map_append]; rfl
theorem cyc_length (r : Int) (n : Nat) (f : Fm) : (cyc r n f).length = n := by simp [cyc]
theorem cyc_get (r : Int) (n : Nat) (f : Fm) (i : Nat) (h : i < n) : (cyc r n f)[i]? = some (nbn r i f) := by
  unfold cyc; rw [List.getElem?_map, List.getElem?_range h]; rfl
theorem mem_cyc {r : Int} {n : Nat} {f g : Fm} : g ∈ cyc r n f ↔ ∃ i, i < n ∧ nbn r i f = g := by
  unfold cyc
  rw [List.mem_map]
  exact ⟨fun ⟨i, h1, h2⟩ => ⟨i, List.mem_range.1 h1, h2⟩, fun ⟨i, h1, h2⟩ => ⟨i, List.mem_range.2 h1, h2⟩⟩
/-- To be in each other's cycle. -/
theorem cyc_symm {r : Int} {n m : Nat} {f g : Fm} (hn : 1 ≤ n) (hf : nbn r n f = f) (hm : 1 ≤ m) (hg : nbn r m g = g) : g ∈ cyc r n f → f ∈ cyc r m g := by
  rw [mem_cyc, mem_cyc]
  rintro ⟨i, h1, rfl⟩
  refine ⟨(n - i) % m, Nat.mod_lt _ (by omega), ?_⟩
  rw [← nbn_mod hg, ← nbn_add, show i + (n - i) = n by omega, hf]
/-- What a reduction returns. -/
inductive Rd (r : Int) : Fm → Mt → Fm → Mt → Bool → Prop
  | stop {f M} : cyB r f = true → Rd r f M f M true
  | bad {f M} : cyB r f = false → ¬ mle 1000000 (mm M (nmg r f)) → Rd r f M (0, 0, 0) (0, 0, 0, 0) false
  | next {f M g N ok} : cyB r f = false → mle 1000000 (mm M (nmg r f)) → Rd r (nbg r f) (mm M (nmg r f)) g N ok → Rd r f M g N ok
theorem Rd.same {r : Int} {f : Fm} {M : Mt} {g N ok} (h : Rd r f M g N ok) : ∀ {g' N' ok'}, Rd r f M g' N' ok' → g = g' ∧ N = N' ∧ ok = ok' := by
  induction h with
  | stop h =>
    intro g' N' ok' h'
    cases h' with
    | stop _ => exact ⟨rfl, rfl, rfl⟩
    | bad h2 _ => rw [h] at h2; cases h2
    | next h2 _ _ => rw [h] at h2; cases h2
  | bad h hm =>
    intro g' N' ok' h'
    cases h' with
    | stop h2 => rw [h] at h2; cases h2
    | bad _ _ => exact ⟨rfl, rfl, rfl⟩
    | next _ h3 _ => exact absurd h3 hm
  | next h hm _ ih =>
    intro g' N' ok' h'
    cases h' with
    | stop h2 => rw [h] at h2; cases h2
    | bad _ h3 => exact absurd hm h3
    | next _ _ h4 => exact ih h4
/-- What holds of the result. -/
theorem Rd.facts {r d : Int} {f : Fm} {M : Mt} {g N ok} (h : Rd r f M g N ok) (hf : Gd r d f) (hm : mle 1000000 M) (hM : mdet M = 1) (hok : ok = true) : cyB r g = true ∧ Gd r d g ∧ mle 1000000 N ∧ mdet N = 1 ∧ ∀ f0, fact f0 M = f → fact f0 N = g := by
  induction h with
  | stop h => exact ⟨h, hf, hm, hM, fun _ h => h⟩
  | bad _ _ => cases hok
  | @next f M g N ok h hm' _ ih =>
    obtain ⟨a, b, c, e, k⟩ := ih hf.next.1 hm' (by rw [mdet_mm, hM]; unfold nmg; rw [nm_det]; rfl) hok
    exact ⟨a, b, c, e, fun f0 h0 => k f0 (by rw [fact_mm, h0]; rfl)⟩
/-- How far it still is. -/
def cMs (r : Int) (f : Fm) : Nat := if cyB r f = true then 0 else f.2.2.natAbs + 1
theorem cMs_less {r : Int} {f : Fm} (hr : Rt r (fdisc f)) (h : cyB r f = false) : cMs r (nbg r f) < cMs r f := by
  unfold cMs
  rw [if_neg (show ¬ cyB r f = true by rw [h]; simp)]
  by_cases hn : cyB r (nbg r f) = true
  · rw [if_pos hn]; omega
  · rw [if_neg hn]
    have := nbg_less hr (fun hc => hn (cyB_iff.2 hc))
    omega
/-- The numbers of a step. -/
theorem nbg_vals {r d a b c : Int} (h : Gd r d (a, b, c)) : ∃ t B C S, nbg r (a, b, c) = (c, B, C) ∧ nmg r (a, b, c) = (0, -1, 1, S) ∧ c ≠ 0 ∧ t = (if (c.natAbs : Int) ≤ r then r else (c.natAbs : Int)) ∧ B = t - (t + b) % (2 * (c.natAbs : Int)) ∧ B * B - d = 4 * c * C ∧ b + B = 2 * c * S ∧ (-1000000 ≤ B ∧ B ≤ 1000000) ∧ (-1000000 ≤ C ∧ C ≤ 1000000) ∧ (-1000000 ≤ S ∧ S ≤ 1000000) ∧ 0 < t ∧ t ≤ 1000000 ∧ C = a - b * S + c * S * S ∧ B = 2 * c * S - b := by
  obtain ⟨_, hc⟩ := outer h.root
  obtain ⟨hn, j1, j2⟩ := h.next
  have hd : fdisc (nbg r (a, b, c)) = d := by rw [nbg_disc]; exact h.ds
  have hv := nb_val (topR r (a, b, c)) (a, b, c)
  obtain ⟨c1, c2⟩ := h.c
  have r31 := h.r31
  have r0 := h.rt.r0
  have hS : nmg r (a, b, c) = (0, -1, 1, if c < 0 then -nj (topR r (a, b, c)) (a, b, c) else nj (topR r (a, b, c)) (a, b, c)) := rfl
  have hq := Int.mul_ediv_add_emod (topR r (a, b, c) + b) (2 * (c.natAbs : Int))
  have hjd : nj (topR r (a, b, c)) (a, b, c) = (topR r (a, b, c) + b) / (2 * (c.natAbs : Int)) := rfl
  rw [← hjd] at hq
  have ht : topR r (a, b, c) = (if (c.natAbs : Int) ≤ r then r else (c.natAbs : Int)) := rfl
  have htb : 0 < topR r (a, b, c) ∧ topR r (a, b, c) ≤ 1000000 := by rw [ht]; simp only at c1 c2 hc; split <;> omega
  have e1 : (nbg r (a, b, c)).1 = c := by unfold nbg; rw [hv]
  have e2 : (nbg r (a, b, c)).2.1 = 2 * (c.natAbs : Int) * nj (topR r (a, b, c)) (a, b, c) - b := by unfold nbg; rw [hv]
  have e3 : (nbg r (a, b, c)).2.2 = if c < 0 then a + b * nj (topR r (a, b, c)) (a, b, c) + c * (nj (topR r (a, b, c)) (a, b, c) * nj (topR r (a, b, c)) (a, b, c)) else a - b * nj (topR r (a, b, c)) (a, b, c) + c * (nj (topR r (a, b, c)) (a, b, c) * nj (topR r (a, b, c)) (a, b, c)) := by unfold nbg; rw [hv]
  have hb := hn.b
  have hcc := hn.c
  generalize nj (topR r (a, b, c)) (a, b, c) = j at *
  rw [← ht]
  generalize topR r (a, b, c) = t at *
  obtain ⟨⟨G1, G2, G3⟩, hg⟩ : ∃ G, nbg r (a, b, c) = G := ⟨_, rfl⟩
  rw [hg]
  rw [hg] at e1 e2 e3 hd hb hcc
  simp only [fdisc] at e1 e2 e3 hd hb hcc hc
  subst e1
  refine ⟨t, G2, G3, if G1 < 0 then -j else j, rfl, hS, hc, rfl, by omega, by omega, ?_, hb, hcc, ?_, htb.1, htb.2, ?_, ?_⟩
  · by_cases h : G1 < 0
    · rw [if_pos h]
      rw [show (G1.natAbs : Int) = -G1 by omega] at e2
      grind
    · rw [if_neg h]
      rw [show (G1.natAbs : Int) = G1 by omega] at e2
      grind
  · split <;> omega
  · rw [e3]
    by_cases h : G1 < 0
    · rw [if_pos h, if_pos h]; grind
    · rw [if_neg h, if_neg h]; grind
  · by_cases h : G1 < 0
    · rw [if_pos h]
      rw [show (G1.natAbs : Int) = -G1 by omega] at e2
      grind
    · rw [if_neg h]
      rw [show (G1.natAbs : Int) = G1 by omega] at e2
      grind
end Go.Proofs.Ytemnkfigjpphgaa
