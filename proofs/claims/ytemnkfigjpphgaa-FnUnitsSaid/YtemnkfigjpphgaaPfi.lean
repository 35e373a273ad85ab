/-
  The program's fundamental solution.
-/
import Derived.Test.YtemnkfigjpphgaaLsq
import Derived.Test.YtemnkfigjpphgaaPel
namespace Go.Proofs.Ytemnkfigjpphgaa
open Go.RowKit
attribute [local simp, local go_sem] past_cell past_frozen past_tape
theorem solS_four {d t u : Int} : SolS d 4 t u ↔ Sol d t u := by
  have e : d * u * u = d * (u * u) := by grind
  unfold SolS Sol
  rw [e]
  constructor
  · rintro ⟨h1, h2, h3⟩; exact ⟨h1, h2, by omega⟩
  · rintro ⟨h1, h2, h3⟩; exact ⟨h1, h2, by omega⟩
theorem smallB_pos {t u : Int} (ht : 0 < t) (hu : 0 < u) : smallB t u = true ↔ Small t u := by
  unfold smallB numB Small
  simp
  omega
theorem ls_true {d t u : Int} (hd : 5 ≤ d) (h : LsR d 4 1000000 t u true) : PFour d t u true := by
  rcases h with ⟨h1, h2, h3, h4⟩ | ⟨_, _, h, _⟩
  · have hs := solS_four.1 h1
    exact .inl ⟨rfl, ⟨hs, fun t' u' h => h3 t' u' (solS_four.2 h)⟩, (smallB_pos hs.1 hs.2.1).1 h4.symm⟩
  · cases h
theorem ls_false {d t u : Int} (hd : 5 ≤ d) (h : LsR d 4 1000000 t u false) : PFour d 0 0 false := by
  refine .inr ⟨rfl, rfl, rfl, fun t' u' hs hsm => ?_⟩
  rcases h with ⟨h1, h2, h3, h4⟩ | ⟨_, _, _, h⟩
  · have hs1 := solS_four.1 h1
    have hu := h3 t' u' (solS_four.2 hs)
    have ht := hs1.mono (by omega) hs hu
    have hsm1 : Small t u := ⟨by have := hsm.1; omega, by have := hsm.2; omega⟩
    have := (smallB_pos hs1.1 hs1.2.1).2 hsm1
    rw [← h4] at this
    cases this
  · have := h t' u' (solS_four.2 hs)
    have := hsm.2
    omega
theorem pf_exists (d : Int) (hd : 0 < d) : ∃ t u ok, PFour d t u ok := by
  by_cases hex : ∃ n : Nat, ∃ t : Int, Sol d t (n : Int) ∧ Small t (n : Int)
  · obtain ⟨n, ⟨t, hs, hsm⟩, hmin⟩ : ∃ n : Nat, (∃ t : Int, Sol d t (n : Int) ∧ Small t (n : Int)) ∧ ∀ m : Nat, m < n → ¬ ∃ t : Int, Sol d t (m : Int) ∧ Small t (m : Int) := by
      classical
      obtain ⟨n, hn⟩ := hex
      induction n using Nat.strongRecOn with
      | ind n ih =>
        by_cases h : ∃ m, m < n ∧ ∃ t : Int, Sol d t (m : Int) ∧ Small t (m : Int)
        · obtain ⟨m, hm, h⟩ := h
          exact ih m hm h
        · exact ⟨n, hn, fun m hm h' => h ⟨m, hm, h'⟩⟩
    refine ⟨t, n, true, .inl ⟨rfl, ⟨hs, fun t' u' hs' => ?_⟩, hsm⟩⟩
    refine Int.le_of_not_gt fun hlt => ?_
    have ht := hs'.mono hd hs (by omega)
    have hu' := hs'.2.1
    refine hmin u'.toNat (by omega) ⟨t', ?_⟩
    have e : ((u'.toNat : Nat) : Int) = u' := by omega
    rw [e]
    exact ⟨hs', ⟨by have := hsm.1; omega, by have := hsm.2; omega⟩⟩
  · refine ⟨0, 0, false, .inr ⟨rfl, rfl, rfl, fun t' u' hs hsm => hex ⟨u'.toNat, t', ?_⟩⟩⟩
    have e : ((u'.toNat : Nat) : Int) = u' := by have := hs.2.1; omega
    rw [e]
    exact ⟨hs, hsm⟩
set_option maxHeartbeats 4000000 in
theorem pellFour_any (d t u : Int) (ok : Bool) (w : World) (hp : posB d = true) (h : PFour d t u ok) :
    Calls Try.prog 49 #[.int .i64 d] w fun en w' => en = .returned (.tuple #[.agg #[.int .i64 t, .int .i64 u], .bool ok]) ∧ Below w.heap.size w w' := by
  obtain ⟨d1, d2⟩ := posB_true hp
  go_enter Try.func49, Try.ntmps49
  go_wp2_with fail
  refine (leastSolution_any d 4 1000000 _ ⟨d1, d2⟩ (.inl rfl) ⟨by omega, by omega⟩).mono ?_
  rintro e1 w1 ⟨⟨t', u', ok', rfl, hl⟩, hB1⟩
  have k1 := (Blk.new w 27 #[.int .i64 0, .int .i64 0]).below hB1
  have b1 : Below w.heap.size w w1 := by repeat (first | with_reducible exact Below.refl _ _ | with_reducible assumption | ((with_reducible refine blA ?_ ?_); (focus (first | omega | (simp <;> omega)))) | (with_reducible refine blD ?_) | (with_reducible refine blN ?_) | ((with_reducible refine blS ?_ ?_); (focus (first | omega | (simp <;> omega)))) | ((with_reducible refine blT (by assumption) ?_ ?_); (focus (first | omega | (simp <;> omega)))))
  have K1 := Lib.hid k1
  have B1 := Lib.hid b1
  have l1 := k1.lt
  clear hB1 k1 b1
  have cK := K1.out.cell
  have fK := K1.out.froz
  have nK : ¬ w.heap.size = w1.heap.size := by omega
  have nK' : ¬ w1.heap.size = w.heap.size := by omega
  cases ok' with
  | true =>
    obtain ⟨rfl, rfl, rfl⟩ := (ls_true d1 hl).unique h
    go_wp2_with fail
    have b1 := B1.out
    refine bodyPost_ret (v := .tuple #[.agg #[.int .i64 t', .int .i64 u'], .bool true]) (by go_light; simp [results, Try.results49, go_sem, *]) rfl ⟨rfl, ?_⟩
    repeat (first | with_reducible exact Below.refl _ _ | with_reducible assumption | ((with_reducible refine blA ?_ ?_); (focus (first | omega | (simp <;> omega)))) | (with_reducible refine blD ?_) | (with_reducible refine blN ?_) | ((with_reducible refine blS ?_ ?_); (focus (first | omega | (simp <;> omega)))) | ((with_reducible refine blT (by assumption) ?_ ?_); (focus (first | omega | (simp <;> omega)))))
  | false =>
    obtain ⟨rfl, rfl, rfl⟩ := (ls_false d1 hl).unique h
    go_wp2_with fail
    have b1 := B1.out
    refine bodyPost_ret (v := .tuple #[.agg #[.int .i64 0, .int .i64 0], .bool false]) (by go_light; simp [results, Try.results49, go_sem, *]) rfl ⟨rfl, ?_⟩
    repeat (first | with_reducible exact Below.refl _ _ | with_reducible assumption | ((with_reducible refine blA ?_ ?_); (focus (first | omega | (simp <;> omega)))) | (with_reducible refine blD ?_) | (with_reducible refine blN ?_) | ((with_reducible refine blS ?_ ?_); (focus (first | omega | (simp <;> omega)))) | ((with_reducible refine blT (by assumption) ?_ ?_); (focus (first | omega | (simp <;> omega)))))
/-- What PellFour returns, for any number. -/
def PF (d t u : Int) (ok : Bool) : Prop := (posB d = true ∧ PFour d t u ok) ∨ (posB d = false ∧ t = 0 ∧ u = 0 ∧ ok = false)
theorem PF.exist (d : Int) : ∃ t u ok, PF d t u ok := by
  cases hp : posB d with
  | true =>
    obtain ⟨t, u, ok, h⟩ := pf_exists d (by have := posB_true hp; omega)
    exact ⟨t, u, ok, .inl ⟨hp, h⟩⟩
  | false => exact ⟨0, 0, false, .inr ⟨hp, rfl, rfl, rfl⟩⟩
set_option maxHeartbeats 4000000 in
theorem implPellFour_any (d t u : Int) (ok : Bool) (w : World) (hd : I64 d) (h : PF d t u ok) :
    Calls Try.prog 10 #[.int .i64 d] w fun en w' => en = .returned (.tuple #[.agg #[.int .i64 t, .int .i64 u], .bool ok]) ∧ Below w.heap.size w w' := by
  rcases h with ⟨hp, h⟩ | ⟨hp, rfl, rfl, rfl⟩
  · go_enter Try.func10, Try.ntmps10
    go_wp2_with (first | (go_at_call 44; refine (isPositiveDisc_any _ _ hd).mono ?_; rintro e w' ⟨rfl, rfl⟩) | (go_at_call 49; refine (pellFour_any _ _ _ _ _ hp h).mono ?_; rintro e w' ⟨rfl, hB⟩; obtain ⟨hC, hF⟩ := bcell hB; have hS := hB.size; (try simp at hS); (try have hSl := Nat.lt_of_succ_le hS); (try have hS0 : w.heap.size < w'.heap.size := by omega); (try have hS1 : w.heap.size + 1 < w'.heap.size := by omega); (try have hS2 : w.heap.size + 1 + 1 < w'.heap.size := by omega); (try have hS3 : w.heap.size + 1 + 1 + 1 < w'.heap.size := by omega)))
    refine bodyPost_ret (v := .tuple #[.agg #[.int .i64 t, .int .i64 u], .bool ok]) (by go_light; simp [results, Try.results10, go_sem, *]) rfl ⟨rfl, ?_⟩
    repeat (first | with_reducible exact Below.refl _ _ | with_reducible assumption | ((with_reducible refine blA ?_ ?_); (focus (first | omega | (simp <;> omega)))) | (with_reducible refine blD ?_) | (with_reducible refine blN ?_) | ((with_reducible refine blS ?_ ?_); (focus (first | omega | (simp <;> omega)))) | ((with_reducible refine blT (by assumption) ?_ ?_); (focus (first | omega | (simp <;> omega)))))
  · go_enter Try.func10, Try.ntmps10
    go_wp2_with (first | (go_at_call 44; refine (isPositiveDisc_any _ _ hd).mono ?_; rintro e w' ⟨rfl, rfl⟩))
    refine bodyPost_ret (v := .tuple #[.agg #[.int .i64 0, .int .i64 0], .bool false]) (by go_light; simp [results, Try.results10, go_sem, *]) rfl ⟨rfl, ?_⟩
    repeat (first | with_reducible exact Below.refl _ _ | with_reducible assumption | ((with_reducible refine blA ?_ ?_); (focus (first | omega | (simp <;> omega)))) | (with_reducible refine blD ?_) | (with_reducible refine blN ?_) | ((with_reducible refine blS ?_ ?_); (focus (first | omega | (simp <;> omega)))) | ((with_reducible refine blT (by assumption) ?_ ?_); (focus (first | omega | (simp <;> omega)))))
end Go.Proofs.Ytemnkfigjpphgaa
