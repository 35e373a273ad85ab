/-
  Solutions for -4, both ways.
-/
import Derived.Test.YtemnkfigjpphgaaPfi
namespace Go.Proofs.Ytemnkfigjpphgaa
open Go.RowKit
attribute [local simp, local go_sem] past_cell past_frozen past_tape
/-- What PellMinusFour returns, from the least solution for 4. -/
def PMn (d T U t u : Int) (ok : Bool) : Prop := (ok = true ∧ SolM d t u ∧ t * u = U ∧ t * t + 2 = T) ∨ (ok = false ∧ t = 0 ∧ u = 0 ∧ ∀ t' u', ¬ SolM d t' u')
theorem PMn.unique {d T U t u t' u' : Int} {ok ok' : Bool} (h : PMn d T U t u ok) (h' : PMn d T U t' u' ok') : t = t' ∧ u = u' ∧ ok = ok' := by
  rcases h with ⟨rfl, a, b, c⟩ | ⟨rfl, rfl, rfl, a⟩ <;> rcases h' with ⟨rfl, a', b', c'⟩ | ⟨rfl, rfl, rfl, a'⟩
  · have e : t = t' := eq_of_sq (by have := a.1; omega) (by have := a'.1; omega) (by omega)
    subst e
    refine ⟨rfl, ?_, rfl⟩
    exact Int.eq_of_mul_eq_mul_left (show t ≠ 0 by have := a.1; omega) (by omega)
  · exact absurd a (a' _ _)
  · exact absurd a' (a _ _)
  · exact ⟨rfl, rfl, rfl⟩
theorem solM_least {d : Int} (h : ∃ t u, SolM d t u) : ∃ t u, SolM d t u ∧ ∀ t' u', SolM d t' u' → u ≤ u' := by
  obtain ⟨n, ⟨t, hs⟩, hmin⟩ : ∃ n : Nat, (∃ t : Int, SolM d t (n : Int)) ∧ ∀ m : Nat, m < n → ¬ ∃ t : Int, SolM d t (m : Int) := by
    classical
    obtain ⟨t, u, hs⟩ := h
    have hn : ∃ t : Int, SolM d t ((u.toNat : Nat) : Int) := ⟨t, by have e : ((u.toNat : Nat) : Int) = u := by { have := hs.2.1; omega }; rw [e]; exact hs⟩
    generalize u.toNat = n at hn
    induction n using Nat.strongRecOn with
    | ind n ih =>
      by_cases h : ∃ m, m < n ∧ ∃ t : Int, SolM d t (m : Int)
      · obtain ⟨m, hm, h⟩ := h
        exact ih m hm h
      · exact ⟨n, hn, fun m hm h' => h ⟨m, hm, h'⟩⟩
  refine ⟨t, n, hs, fun t' u' hs' => Int.le_of_not_gt fun hlt => ?_⟩
  have hu' := hs'.2.1
  refine hmin u'.toNat (by omega) ⟨t', ?_⟩
  have e : ((u'.toNat : Nat) : Int) = u' := by omega
  rw [e]
  exact hs'
theorem PMn.exist {d T U : Int} (hd : 5 ≤ d) (hL : Least d T U) : ∃ t u ok, PMn d T U t u ok := by
  by_cases h : ∃ t u, SolM d t u
  · obtain ⟨t, u, hs, hm⟩ := solM_least h
    obtain ⟨h1, h2⟩ := minus_square hd hs hm hL
    exact ⟨t, u, true, .inl ⟨rfl, hs, h1, h2⟩⟩
  · exact ⟨0, 0, false, .inr ⟨rfl, rfl, rfl, fun t' u' hs => h ⟨t', u', hs⟩⟩⟩
theorem solS_minus {d t u : Int} : SolS d (-4) t u ↔ SolM d t u := by
  have e : d * u * u = d * (u * u) := by grind
  unfold SolS SolM
  rw [e]
  constructor
  · rintro ⟨h1, h2, h3⟩; exact ⟨h1, h2, by omega⟩
  · rintro ⟨h1, h2, h3⟩; exact ⟨h1, h2, by omega⟩
theorem le_mul_pos {a b : Int} (ha : 0 < a) (hb : 0 < b) : b ≤ a * b ∧ a ≤ a * b := by
  have h1 := Int.mul_le_mul_of_nonneg_right (show 1 ≤ a by omega) (show 0 ≤ b by omega)
  have h2 := Int.mul_le_mul_of_nonneg_left (show 1 ≤ b by omega) (show 0 ≤ a by omega)
  rw [Int.one_mul] at h1
  rw [Int.mul_one] at h2
  exact ⟨h1, h2⟩
theorem pm_impl {d T U t u : Int} {ok : Bool} (hd : 5 ≤ d) (hL : Least d T U) (hs : Small T U) (h : LsR d (-4) U t u ok) : PMn d T U (if ok then t else 0) (if ok then u else 0) ok := by
  rcases h with ⟨h1, h2, h3, h4⟩ | ⟨_, _, rfl, h⟩
  · have hm := solS_minus.1 h1
    obtain ⟨e1, e2⟩ := minus_square hd hm (fun t' u' h => h3 t' u' (solS_minus.2 h)) hL
    have hok : ok = true := by
      rw [h4]
      refine (smallB_pos hm.1 hm.2.1).2 ⟨?_, by have := hs.2; omega⟩
      obtain ⟨k1, k2⟩ := le_mul_pos hm.1 hm.1
      have := hs.1
      omega
    rw [hok]
    exact .inl ⟨rfl, hm, e1, e2⟩
  · refine .inr ⟨rfl, rfl, rfl, fun t' u' hs' => ?_⟩
    obtain ⟨t0, u0, k1, k2⟩ := solM_least ⟨t', u', hs'⟩
    obtain ⟨e1, e2⟩ := minus_square hd k1 k2 hL
    have := h t0 u0 (solS_minus.2 k1)
    obtain ⟨q1, q2⟩ := le_mul_pos k1.1 k1.2.1
    omega
/-- What PellMinusFour returns, for any number. -/
def PM (d t u : Int) (ok : Bool) : Prop := ∃ T U okf, PF d T U okf ∧ ((okf = true ∧ PMn d T U t u ok) ∨ (okf = false ∧ t = 0 ∧ u = 0 ∧ ok = false))
theorem PF.unique {d t u t' u' : Int} {ok ok' : Bool} (h : PF d t u ok) (h' : PF d t' u' ok') : t = t' ∧ u = u' ∧ ok = ok' := by
  rcases h with ⟨h1, h2⟩ | ⟨h1, rfl, rfl, rfl⟩ <;> rcases h' with ⟨k1, k2⟩ | ⟨k1, rfl, rfl, rfl⟩
  · exact h2.unique k2
  · rw [h1] at k1; cases k1
  · rw [h1] at k1; cases k1
  · exact ⟨rfl, rfl, rfl⟩
theorem PF.true {d T U : Int} (h : PF d T U true) : posB d = true ∧ Least d T U ∧ Small T U := by
  rcases h with ⟨h1, h2⟩ | ⟨_, _, _, h⟩
  · rcases h2 with ⟨_, h2, h3⟩ | ⟨h, _⟩
    · exact ⟨h1, h2, h3⟩
    · cases h
  · cases h
theorem PM.exist (d : Int) : ∃ t u ok, PM d t u ok := by
  obtain ⟨T, U, okf, h⟩ := PF.exist d
  cases okf with
  | true =>
    obtain ⟨h1, h2, h3⟩ := h.true
    obtain ⟨t, u, ok, k⟩ := PMn.exist (posB_true h1).1 h2
    exact ⟨t, u, ok, T, U, true, h, .inl ⟨rfl, k⟩⟩
  | false => exact ⟨0, 0, false, T, U, false, h, .inr ⟨rfl, rfl, rfl, rfl⟩⟩
set_option maxHeartbeats 4000000 in
theorem implPellMinusFour_any (d t u : Int) (ok : Bool) (w : World) (hd : I64 d) (h : PM d t u ok) :
    Calls Try.prog 12 #[.int .i64 d] w fun en w' => en = .returned (.tuple #[.agg #[.int .i64 t, .int .i64 u], .bool ok]) ∧ Below w.heap.size w w' := by
  obtain ⟨T, U, okf, hf, h⟩ := h
  have hcall := Lib.hid fun w1 => implPellFour_any d T U okf w1 hd hf
  rcases h with ⟨rfl, hm⟩ | ⟨rfl, rfl, rfl, rfl⟩
  · obtain ⟨hp, hL, hSm⟩ := hf.true
    obtain ⟨d1, d2⟩ := posB_true hp
    go_enter Try.func12, Try.ntmps12
    go_wp2_with (first | (go_at_call 10; refine (hcall.out _).mono ?_; rintro e w' ⟨rfl, hB⟩; obtain ⟨hC, hF⟩ := bcell hB; have hS := hB.size; (try simp at hS); (try have hSl := Nat.lt_of_succ_le hS); (try have hS0 : w.heap.size < w'.heap.size := by omega); (try have hS1 : w.heap.size + 1 < w'.heap.size := by omega); (try have hS2 : w.heap.size + 1 + 1 < w'.heap.size := by omega); (try have hS3 : w.heap.size + 1 + 1 + 1 < w'.heap.size := by omega)))
    obtain ⟨_, hU, _⟩ := hL.1
    have hk := ((Blk.new w 27 #[.int .i64 0, .int .i64 0]).below hB).alloc (.cells #[.int .i64 T, .int .i64 U] 27)
    have hb : Below w.heap.size w (w'.alloc (.cells #[.int .i64 T, .int .i64 U] 27)) := by repeat (first | with_reducible exact Below.refl _ _ | with_reducible assumption | ((with_reducible refine blA ?_ ?_); (focus (first | omega | (simp <;> omega)))) | (with_reducible refine blD ?_) | (with_reducible refine blN ?_) | ((with_reducible refine blS ?_ ?_); (focus (first | omega | (simp <;> omega)))) | ((with_reducible refine blT (by assumption) ?_ ?_); (focus (first | omega | (simp <;> omega)))))
    refine (leastSolution_any d (-4) U _ ⟨d1, d2⟩ (.inr rfl) ⟨by omega, by have := hSm.2; omega⟩).mono ?_
    rintro e2 w2 ⟨⟨t', u', ok', rfl, hl⟩, hB2⟩
    have hk2 := hk.below hB2
    have K2 := Lib.hid (show Below w.heap.size w w2 from hb.trans (hB2.mono hb.size))
    have c2 := hk2.cell
    have f2 := hk2.froz
    have l2 := hk2.lt
    have nK : ¬ w.heap.size = w2.heap.size := by omega
    have nK' : ¬ w2.heap.size = w.heap.size := by omega
    clear hk hb hk2 hB2 hB hC hF hcall hf
    obtain ⟨e1, e2, e3⟩ := (pm_impl d1 hL hSm hl).unique hm
    clear hl hm hL hSm
    cases ok' with
    | true =>
      simp only [if_true] at e1 e2
      subst e1 e2 e3
      go_wp2_with fail
      have b2 := K2.out
      refine bodyPost_ret (v := .tuple #[.agg #[.int .i64 t', .int .i64 u'], .bool true]) (by go_light; simp [results, Try.results12, go_sem, *]) rfl ⟨rfl, ?_⟩
      repeat (first | with_reducible exact Below.refl _ _ | with_reducible assumption | ((with_reducible refine blA ?_ ?_); (focus (first | omega | (simp <;> omega)))) | (with_reducible refine blD ?_) | (with_reducible refine blN ?_) | ((with_reducible refine blS ?_ ?_); (focus (first | omega | (simp <;> omega)))) | ((with_reducible refine blT (by assumption) ?_ ?_); (focus (first | omega | (simp <;> omega)))))
    | false =>
      simp only [Bool.false_eq_true, if_false] at e1 e2
      subst e1 e2 e3
      go_wp2_with fail
      have b2 := K2.out
      refine bodyPost_ret (v := .tuple #[.agg #[.int .i64 0, .int .i64 0], .bool false]) (by go_light; simp [results, Try.results12, go_sem, *]) rfl ⟨rfl, ?_⟩
      repeat (first | with_reducible exact Below.refl _ _ | with_reducible assumption | ((with_reducible refine blA ?_ ?_); (focus (first | omega | (simp <;> omega)))) | (with_reducible refine blD ?_) | (with_reducible refine blN ?_) | ((with_reducible refine blS ?_ ?_); (focus (first | omega | (simp <;> omega)))) | ((with_reducible refine blT (by assumption) ?_ ?_); (focus (first | omega | (simp <;> omega)))))
  · go_enter Try.func12, Try.ntmps12
    go_wp2_with (first | (go_at_call 10; refine (hcall.out _).mono ?_; rintro e w' ⟨rfl, hB⟩; obtain ⟨hC, hF⟩ := bcell hB; have hS := hB.size; (try simp at hS); (try have hSl := Nat.lt_of_succ_le hS); (try have hS0 : w.heap.size < w'.heap.size := by omega); (try have hS1 : w.heap.size + 1 < w'.heap.size := by omega); (try have hS2 : w.heap.size + 1 + 1 < w'.heap.size := by omega); (try have hS3 : w.heap.size + 1 + 1 + 1 < w'.heap.size := by omega)))
    refine bodyPost_ret (v := .tuple #[.agg #[.int .i64 0, .int .i64 0], .bool false]) (by go_light; simp [results, Try.results12, go_sem, *]) rfl ⟨rfl, ?_⟩
    repeat (first | with_reducible exact Below.refl _ _ | with_reducible assumption | ((with_reducible refine blA ?_ ?_); (focus (first | omega | (simp <;> omega)))) | (with_reducible refine blD ?_) | (with_reducible refine blN ?_) | ((with_reducible refine blS ?_ ?_); (focus (first | omega | (simp <;> omega)))) | ((with_reducible refine blT (by assumption) ?_ ?_); (focus (first | omega | (simp <;> omega)))))
end Go.Proofs.Ytemnkfigjpphgaa
