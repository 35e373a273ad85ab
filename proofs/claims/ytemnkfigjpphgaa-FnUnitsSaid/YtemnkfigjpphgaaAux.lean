/-
  Automorphs and their exponents. (Printed by mkaux.py.)
-/
import Derived.Test.YtemnkfigjpphgaaAuw
import Derived.Deep.CutRange
namespace Go.Proofs.Ytemnkfigjpphgaa
open Go.RowKit
attribute [local simp, local go_sem] past_cell past_frozen past_tape
/-- Whether a form is indefinite and primitive. -/
def priB (a b c : Int) : Bool := indB a b c && decide (gcd3 a b c = 1)
theorem ind_J {a b c : Int} (h : indB a b c = true) : J64 a ∧ J64 b ∧ J64 c := by
  have hg := ind_gd h
  obtain ⟨h1, h2⟩ := hg.a
  obtain ⟨h3, h4⟩ := hg.b
  obtain ⟨h5, h6⟩ := hg.c
  simp only at h1 h2 h3 h4 h5 h6
  exact ⟨⟨by omega, by omega⟩, ⟨by omega, by omega⟩, ⟨by omega, by omega⟩⟩
theorem isPri_any (a b c : Int) (w : World) : Calls Try.prog 96 #[.agg #[.int .i64 a, .int .i64 b, .int .i64 c]] w fun en w' => en = .returned (.bool (priB a b c)) ∧ Below w.heap.size w w' := by
  have hgood := Lib.hid fun w0 => isIndefinite_any a b c w0
  cases hi : indB a b c with
  | false =>
    have hp : priB a b c = false := by unfold priB; rw [hi]; rfl
    rw [hp]
    rw [hi] at hgood
    clear hi hp
    go_enter Try.func96, Try.ntmps96
    go_wp2_with (first | (go_at_call 87; refine (hgood.out _).mono ?_; rintro e w' ⟨rfl, hB⟩; obtain ⟨hC, hF⟩ := bcell hB; have hS := hB.size; (try simp at hS); (try have hSl := Nat.lt_of_succ_le hS); (try have hS0 : w.heap.size < w'.heap.size := by omega); (try have hS1 : w.heap.size + 1 < w'.heap.size := by omega); (try have hS2 : w.heap.size + 1 + 1 < w'.heap.size := by omega); (try have hS3 : w.heap.size + 1 + 1 + 1 < w'.heap.size := by omega)))
    go_ret
    refine ⟨rfl, ?_⟩
    repeat (first | with_reducible exact Below.refl _ _ | with_reducible assumption | ((with_reducible refine blA ?_ ?_); (focus (first | omega | (simp <;> omega)))) | (with_reducible refine blD ?_) | (with_reducible refine blN ?_) | ((with_reducible refine blS ?_ ?_); (focus (first | omega | (simp <;> omega)))) | ((with_reducible refine blT (by assumption) ?_ ?_); (focus (first | omega | (simp <;> omega)))))
  | true =>
    obtain ⟨ja, jb, jc⟩ := ind_J hi
    have hcont := Lib.hid fun w0 => content_any a b c w0 ja jb jc
    rw [hi] at hgood
    obtain ⟨g, hg⟩ : ∃ g, gcd3 a b c = g := ⟨_, rfl⟩
    rw [hg] at hcont
    have hp : priB a b c = decide (g = 1) := by unfold priB; rw [hi, hg]; rfl
    rw [hp]
    clear hi hp ja jb jc hg
    by_cases h1 : g = 1
    · subst h1
      go_enter Try.func96, Try.ntmps96
      go_wp2_with (first | (go_at_call 87; refine (hgood.out _).mono ?_; rintro e w' ⟨rfl, hB⟩; obtain ⟨hC, hF⟩ := bcell hB; have hS := hB.size; (try simp at hS); (try have hSl := Nat.lt_of_succ_le hS); (try have hS0 : w.heap.size < w'.heap.size := by omega); (try have hS1 : w.heap.size + 1 < w'.heap.size := by omega); (try have hS2 : w.heap.size + 1 + 1 < w'.heap.size := by omega); (try have hS3 : w.heap.size + 1 + 1 + 1 < w'.heap.size := by omega)) | (go_at_call 95; refine (hcont.out _).mono ?_; rintro e w' ⟨rfl, hB⟩; obtain ⟨hC, hF⟩ := bcell hB; have hS := hB.size; (try simp at hS); (try have hSl := Nat.lt_of_succ_le hS); (try have hS0 : w.heap.size < w'.heap.size := by omega); (try have hS1 : w.heap.size + 1 < w'.heap.size := by omega); (try have hS2 : w.heap.size + 1 + 1 < w'.heap.size := by omega); (try have hS3 : w.heap.size + 1 + 1 + 1 < w'.heap.size := by omega)))
      go_ret
      refine ⟨rfl, ?_⟩
      repeat (first | with_reducible exact Below.refl _ _ | with_reducible assumption | ((with_reducible refine blA ?_ ?_); (focus (first | omega | (simp <;> omega)))) | (with_reducible refine blD ?_) | (with_reducible refine blN ?_) | ((with_reducible refine blS ?_ ?_); (focus (first | omega | (simp <;> omega)))) | ((with_reducible refine blT (by assumption) ?_ ?_); (focus (first | omega | (simp <;> omega)))))
    · have hd : decide (g = 1) = false := decide_eq_false h1
      have hd2 : (g == 1) = false := by simp [h1]
      rw [hd]
      go_enter Try.func96, Try.ntmps96
      go_wp2_with (first | (go_at_call 87; refine (hgood.out _).mono ?_; rintro e w' ⟨rfl, hB⟩; obtain ⟨hC, hF⟩ := bcell hB; have hS := hB.size; (try simp at hS); (try have hSl := Nat.lt_of_succ_le hS); (try have hS0 : w.heap.size < w'.heap.size := by omega); (try have hS1 : w.heap.size + 1 < w'.heap.size := by omega); (try have hS2 : w.heap.size + 1 + 1 < w'.heap.size := by omega); (try have hS3 : w.heap.size + 1 + 1 + 1 < w'.heap.size := by omega)) | (go_at_call 95; refine (hcont.out _).mono ?_; rintro e w' ⟨rfl, hB⟩; obtain ⟨hC, hF⟩ := bcell hB; have hS := hB.size; (try simp at hS); (try have hSl := Nat.lt_of_succ_le hS); (try have hS0 : w.heap.size < w'.heap.size := by omega); (try have hS1 : w.heap.size + 1 < w'.heap.size := by omega); (try have hS2 : w.heap.size + 1 + 1 < w'.heap.size := by omega); (try have hS3 : w.heap.size + 1 + 1 + 1 < w'.heap.size := by omega)))
      go_ret
      refine ⟨rfl, ?_⟩
      repeat (first | with_reducible exact Below.refl _ _ | with_reducible assumption | ((with_reducible refine blA ?_ ?_); (focus (first | omega | (simp <;> omega)))) | (with_reducible refine blD ?_) | (with_reducible refine blN ?_) | ((with_reducible refine blS ?_ ?_); (focus (first | omega | (simp <;> omega)))) | ((with_reducible refine blT (by assumption) ?_ ?_); (focus (first | omega | (simp <;> omega)))))
theorem unForm_any (a b c : Int) (w : World) : Calls Try.prog 98 #[.agg #[.int .i64 a, .int .i64 b, .int .i64 c]] w fun en w' => en = .returned (.bool (priB a b c)) ∧ Below w.heap.size w w' := by
  have hgood := Lib.hid fun w0 => cyGood_any a b c w0
  cases hi : indB a b c with
  | false =>
    have hp : priB a b c = false := by unfold priB; rw [hi]; rfl
    rw [hp]
    rw [hi] at hgood
    clear hi hp
    go_enter Try.func98, Try.ntmps98
    go_wp2_with (first | (go_at_call 73; refine (hgood.out _).mono ?_; rintro e w' ⟨rfl, hB⟩; obtain ⟨hC, hF⟩ := bcell hB; have hS := hB.size; (try simp at hS); (try have hSl := Nat.lt_of_succ_le hS); (try have hS0 : w.heap.size < w'.heap.size := by omega); (try have hS1 : w.heap.size + 1 < w'.heap.size := by omega); (try have hS2 : w.heap.size + 1 + 1 < w'.heap.size := by omega); (try have hS3 : w.heap.size + 1 + 1 + 1 < w'.heap.size := by omega)))
    go_ret
    refine ⟨rfl, ?_⟩
    repeat (first | with_reducible exact Below.refl _ _ | with_reducible assumption | ((with_reducible refine blA ?_ ?_); (focus (first | omega | (simp <;> omega)))) | (with_reducible refine blD ?_) | (with_reducible refine blN ?_) | ((with_reducible refine blS ?_ ?_); (focus (first | omega | (simp <;> omega)))) | ((with_reducible refine blT (by assumption) ?_ ?_); (focus (first | omega | (simp <;> omega)))))
  | true =>
    obtain ⟨ja, jb, jc⟩ := ind_J hi
    have hcont := Lib.hid fun w0 => foContent_any a b c w0 ja jb jc
    rw [hi] at hgood
    obtain ⟨g, hg⟩ : ∃ g, gcd3 a b c = g := ⟨_, rfl⟩
    rw [hg] at hcont
    have hp : priB a b c = decide (g = 1) := by unfold priB; rw [hi, hg]; rfl
    rw [hp]
    clear hi hp ja jb jc hg
    by_cases h1 : g = 1
    · subst h1
      go_enter Try.func98, Try.ntmps98
      go_wp2_with (first | (go_at_call 73; refine (hgood.out _).mono ?_; rintro e w' ⟨rfl, hB⟩; obtain ⟨hC, hF⟩ := bcell hB; have hS := hB.size; (try simp at hS); (try have hSl := Nat.lt_of_succ_le hS); (try have hS0 : w.heap.size < w'.heap.size := by omega); (try have hS1 : w.heap.size + 1 < w'.heap.size := by omega); (try have hS2 : w.heap.size + 1 + 1 < w'.heap.size := by omega); (try have hS3 : w.heap.size + 1 + 1 + 1 < w'.heap.size := by omega)) | (go_at_call 123; refine (hcont.out _).mono ?_; rintro e w' ⟨rfl, hB⟩; obtain ⟨hC, hF⟩ := bcell hB; have hS := hB.size; (try simp at hS); (try have hSl := Nat.lt_of_succ_le hS); (try have hS0 : w.heap.size < w'.heap.size := by omega); (try have hS1 : w.heap.size + 1 < w'.heap.size := by omega); (try have hS2 : w.heap.size + 1 + 1 < w'.heap.size := by omega); (try have hS3 : w.heap.size + 1 + 1 + 1 < w'.heap.size := by omega)))
      go_ret
      refine ⟨rfl, ?_⟩
      repeat (first | with_reducible exact Below.refl _ _ | with_reducible assumption | ((with_reducible refine blA ?_ ?_); (focus (first | omega | (simp <;> omega)))) | (with_reducible refine blD ?_) | (with_reducible refine blN ?_) | ((with_reducible refine blS ?_ ?_); (focus (first | omega | (simp <;> omega)))) | ((with_reducible refine blT (by assumption) ?_ ?_); (focus (first | omega | (simp <;> omega)))))
    · have hd : decide (g = 1) = false := decide_eq_false h1
      have hd2 : (g == 1) = false := by simp [h1]
      rw [hd]
      go_enter Try.func98, Try.ntmps98
      go_wp2_with (first | (go_at_call 73; refine (hgood.out _).mono ?_; rintro e w' ⟨rfl, hB⟩; obtain ⟨hC, hF⟩ := bcell hB; have hS := hB.size; (try simp at hS); (try have hSl := Nat.lt_of_succ_le hS); (try have hS0 : w.heap.size < w'.heap.size := by omega); (try have hS1 : w.heap.size + 1 < w'.heap.size := by omega); (try have hS2 : w.heap.size + 1 + 1 < w'.heap.size := by omega); (try have hS3 : w.heap.size + 1 + 1 + 1 < w'.heap.size := by omega)) | (go_at_call 123; refine (hcont.out _).mono ?_; rintro e w' ⟨rfl, hB⟩; obtain ⟨hC, hF⟩ := bcell hB; have hS := hB.size; (try simp at hS); (try have hSl := Nat.lt_of_succ_le hS); (try have hS0 : w.heap.size < w'.heap.size := by omega); (try have hS1 : w.heap.size + 1 < w'.heap.size := by omega); (try have hS2 : w.heap.size + 1 + 1 < w'.heap.size := by omega); (try have hS3 : w.heap.size + 1 + 1 + 1 < w'.heap.size := by omega)))
      go_ret
      refine ⟨rfl, ?_⟩
      repeat (first | with_reducible exact Below.refl _ _ | with_reducible assumption | ((with_reducible refine blA ?_ ?_); (focus (first | omega | (simp <;> omega)))) | (with_reducible refine blD ?_) | (with_reducible refine blN ?_) | ((with_reducible refine blS ?_ ?_); (focus (first | omega | (simp <;> omega)))) | ((with_reducible refine blT (by assumption) ?_ ?_); (focus (first | omega | (simp <;> omega)))))
/-- IsPrimitive of an indefinite form. -/
theorem isPrimitive_yes (a b c : Int) (w : World) (hi : indB a b c = true) : Calls Try.prog 35 #[.agg #[.int .i64 a, .int .i64 b, .int .i64 c]] w fun en w' => en = .returned (.tuple #[.bool (priB a b c), .bool true]) ∧ Below w.heap.size w w' := by
  have hgood := Lib.hid fun w0 => IsForm_any a b c w0
  have hf : formB a b c = true := by have h := hi; simp only [indB, Bool.and_eq_true] at h; exact h.1
  obtain ⟨ja, jb, jc⟩ := ind_J hi
  have hcont := Lib.hid fun w0 => content_any a b c w0 ja jb jc
  rw [hf] at hgood
  obtain ⟨g, hg⟩ : ∃ g, gcd3 a b c = g := ⟨_, rfl⟩
  rw [hg] at hcont
  have hp : priB a b c = decide (g = 1) := by unfold priB; rw [hi, hg]; rfl
  rw [hp]
  clear hi hp ja jb jc hg hf
  by_cases h1 : g = 1
  · subst h1
    go_enter Try.func35, Try.ntmps35
    go_wp2_with (first | (go_at_call 83; refine (hgood.out _).mono ?_; rintro e w' ⟨rfl, hB⟩; obtain ⟨hC, hF⟩ := bcell hB; have hS := hB.size; (try simp at hS); (try have hSl := Nat.lt_of_succ_le hS); (try have hS0 : w.heap.size < w'.heap.size := by omega); (try have hS1 : w.heap.size + 1 < w'.heap.size := by omega); (try have hS2 : w.heap.size + 1 + 1 < w'.heap.size := by omega); (try have hS3 : w.heap.size + 1 + 1 + 1 < w'.heap.size := by omega)) | (go_at_call 95; refine (hcont.out _).mono ?_; rintro e w' ⟨rfl, hB⟩; obtain ⟨hC, hF⟩ := bcell hB; have hS := hB.size; (try simp at hS); (try have hSl := Nat.lt_of_succ_le hS); (try have hS0 : w.heap.size < w'.heap.size := by omega); (try have hS1 : w.heap.size + 1 < w'.heap.size := by omega); (try have hS2 : w.heap.size + 1 + 1 < w'.heap.size := by omega); (try have hS3 : w.heap.size + 1 + 1 + 1 < w'.heap.size := by omega)))
    (refine bodyPost_ret (v := .tuple #[.bool true, .bool true]) (by go_light; simp [results, Try.results35, go_sem]) rfl ⟨rfl, ?_⟩; repeat (first | with_reducible exact Below.refl _ _ | with_reducible assumption | ((with_reducible refine blA ?_ ?_); (focus (first | omega | (simp <;> omega)))) | (with_reducible refine blD ?_) | (with_reducible refine blN ?_) | ((with_reducible refine blS ?_ ?_); (focus (first | omega | (simp <;> omega)))) | ((with_reducible refine blT (by assumption) ?_ ?_); (focus (first | omega | (simp <;> omega))))))
  · have hd : decide (g = 1) = false := decide_eq_false h1
    have hd2 : (g == 1) = false := by simp [h1]
    rw [hd]
    go_enter Try.func35, Try.ntmps35
    go_wp2_with (first | (go_at_call 83; refine (hgood.out _).mono ?_; rintro e w' ⟨rfl, hB⟩; obtain ⟨hC, hF⟩ := bcell hB; have hS := hB.size; (try simp at hS); (try have hSl := Nat.lt_of_succ_le hS); (try have hS0 : w.heap.size < w'.heap.size := by omega); (try have hS1 : w.heap.size + 1 < w'.heap.size := by omega); (try have hS2 : w.heap.size + 1 + 1 < w'.heap.size := by omega); (try have hS3 : w.heap.size + 1 + 1 + 1 < w'.heap.size := by omega)) | (go_at_call 95; refine (hcont.out _).mono ?_; rintro e w' ⟨rfl, hB⟩; obtain ⟨hC, hF⟩ := bcell hB; have hS := hB.size; (try simp at hS); (try have hSl := Nat.lt_of_succ_le hS); (try have hS0 : w.heap.size < w'.heap.size := by omega); (try have hS1 : w.heap.size + 1 < w'.heap.size := by omega); (try have hS2 : w.heap.size + 1 + 1 < w'.heap.size := by omega); (try have hS3 : w.heap.size + 1 + 1 + 1 < w'.heap.size := by omega)))
    (refine bodyPost_ret (v := .tuple #[.bool false, .bool true]) (by go_light; simp [results, Try.results35, go_sem, *]) rfl ⟨rfl, ?_⟩; repeat (first | with_reducible exact Below.refl _ _ | with_reducible assumption | ((with_reducible refine blA ?_ ?_); (focus (first | omega | (simp <;> omega)))) | (with_reducible refine blD ?_) | (with_reducible refine blN ?_) | ((with_reducible refine blS ?_ ?_); (focus (first | omega | (simp <;> omega)))) | ((with_reducible refine blT (by assumption) ?_ ?_); (focus (first | omega | (simp <;> omega))))))
/-- What IndefiniteAutomorph returns. -/
def IV (f : Fm) (k : Int) (m : Mt) (ok : Bool) : Prop :=
  (priB f.1 f.2.1 f.2.2 = true ∧ -20 ≤ k ∧ k ≤ 20 ∧ AV f k m ok) ∨ (¬ (priB f.1 f.2.1 f.2.2 = true ∧ -20 ≤ k ∧ k ≤ 20) ∧ m = (0, 0, 0, 0) ∧ ok = false)
theorem priB_ind {a b c : Int} (h : priB a b c = true) : indB a b c = true ∧ Pri (a, b, c) := by
  unfold priB at h
  simp only [Bool.and_eq_true, decide_eq_true_eq] at h
  exact ⟨h.1, gcd3_pri.1 h.2⟩
theorem ind_posF {a b c : Int} (h : indB a b c = true) : posB (fdisc (a, b, c)) = true := by
  have hg := ind_gd h
  rw [hg.ds]
  exact ind_pos h
theorem IV.exist (f : Fm) (k : Int) : ∃ m ok, IV f k m ok := by
  obtain ⟨a, b, c⟩ := f
  by_cases h : priB a b c = true ∧ -20 ≤ k ∧ k ≤ 20
  · obtain ⟨m, ok, h2⟩ := AV.exist (f := (a, b, c)) (ind_posF (priB_ind h.1).1) k
    exact ⟨m, ok, .inl ⟨h.1, h.2.1, h.2.2, h2⟩⟩
  · exact ⟨_, _, .inr ⟨h, rfl, rfl⟩⟩
theorem IV.good {a b c k : Int} {m : Mt} (h : IV (a, b, c) k m true) : indB a b c = true ∧ mle 1000000 m ∧ fact (a, b, c) m = (a, b, c) := by
  rcases h with ⟨h1, h2, h3, h4⟩ | ⟨_, _, h⟩
  · obtain ⟨hi, _⟩ := priB_ind h1
    exact ⟨hi, h4.good (ind_posF hi)⟩
  · cases h
set_option maxRecDepth 100000 in
set_option maxHeartbeats 8000000 in
theorem implIndef_any (a b c k m1 m2 m3 m4 : Int) (ok : Bool) (w : World) (h : IV (a, b, c) k (m1, m2, m3, m4) ok) :
    Calls Try.prog 37 #[.agg #[.int .i64 a, .int .i64 b, .int .i64 c], .int .i64 k] w fun en w' => en = .returned (.tuple #[.agg #[.int .i64 m1, .int .i64 m2, .int .i64 m3, .int .i64 m4], .bool ok]) ∧ Below w.heap.size w w' := by
  have hpri := Lib.hid fun w0 => isPri_any a b c w0
  have H0 : Hid (Blk w.heap.size 36 #[.int .i64 a, .int .i64 b, .int .i64 c] ((w.alloc (.cells #[.int .i64 a, .int .i64 b, .int .i64 c] 36)).alloc (.cells #[.int .i64 0, .int .i64 0, .int .i64 0, .int .i64 0] 40))) := Lib.hid ((Blk.new w _ _).alloc _)
  have H1 : Hid (Blk (w.heap.size + 1) 40 #[.int .i64 0, .int .i64 0, .int .i64 0, .int .i64 0] ((w.alloc (.cells #[.int .i64 a, .int .i64 b, .int .i64 c] 36)).alloc (.cells #[.int .i64 0, .int .i64 0, .int .i64 0, .int .i64 0] 40))) := Lib.hid (by
    have := Blk.new (w.alloc (.cells #[.int .i64 a, .int .i64 b, .int .i64 c] 36)) 40 #[.int .i64 0, .int .i64 0, .int .i64 0, .int .i64 0]
    simpa using this)
  rcases h with ⟨h1, k0, k1, h⟩ | ⟨h1, hz, rfl⟩
  · have hau := Lib.hid fun w0 => automorph_any a b c k m1 m2 m3 m4 ok w0 (priB_ind h1).1 ⟨k0, k1⟩ h
    have HZ : Hid (ok = false → m1 = 0 ∧ m2 = 0 ∧ m3 = 0 ∧ m4 = 0) := Lib.hid fun hx => by
      obtain ⟨t, u, o, _, h⟩ := h
      subst hx
      rcases h with ⟨_, _, _, h⟩ | ⟨_, _, h, _⟩ | ⟨_, h, _⟩
      · cases h
      · simp only [Prod.mk.injEq] at h; exact h
      · simp only [Prod.mk.injEq] at h; exact h
    simp only at h1
    rw [h1] at hpri
    clear h h1
    have hd1 : decide (k < -20) = false := decide_eq_false (by omega)
    have hd2 : decide (k > 20) = false := decide_eq_false (by omega)
    clear k0 k1
    go_enter Try.func37, Try.ntmps37
    go_wp2_with fail
    refine (hpri.out _).mono ?_
    rintro e1 w1 ⟨rfl, hB1⟩
    have K0 := Lib.hid (H0.out.below hB1)
    have K1 := Lib.hid (H1.out.below hB1)
    have HB : Hid (Below w.heap.size w w1) := Lib.hid (by repeat (first | with_reducible exact Below.refl _ _ | with_reducible assumption | ((with_reducible refine blA ?_ ?_); (focus (first | omega | (simp <;> omega)))) | (with_reducible refine blD ?_) | (with_reducible refine blN ?_) | ((with_reducible refine blS ?_ ?_); (focus (first | omega | (simp <;> omega)))) | ((with_reducible refine blT (by assumption) ?_ ?_); (focus (first | omega | (simp <;> omega))))))
    clear hB1 H0 H1 hpri
    have c0 := K0.out.cell
    have l0 := K0.out.lt
    go_wp2_with fail
    refine (hau.out _).mono ?_
    rintro e2 w2 ⟨rfl, hB2⟩
    have k2 := K1.out.below hB2
    have HB2 := Lib.hid (HB.out.trans (hB2.mono HB.out.size))
    have c2 := k2.cell
    have f2 := k2.froz
    have l2 := k2.lt
    clear k2 hB2 K0 K1 c0 l0 HB hau
    go_wp2_with fail
    refine bodyPost_ret (v := .tuple #[.agg #[.int .i64 m1, .int .i64 m2, .int .i64 m3, .int .i64 m4], .bool ok]) (by go_light; simp [results, Try.results37, go_sem, *]) rfl ⟨rfl, ?_⟩
    have hq := HB2.out
    repeat (first | with_reducible exact Below.refl _ _ | with_reducible assumption | ((with_reducible refine blA ?_ ?_); (focus (first | omega | (simp <;> omega)))) | (with_reducible refine blD ?_) | (with_reducible refine blN ?_) | ((with_reducible refine blS ?_ ?_); (focus (first | omega | (simp <;> omega)))) | ((with_reducible refine blT (by assumption) ?_ ?_); (focus (first | omega | (simp <;> omega)))))
  · simp only [Prod.mk.injEq] at hz
    obtain ⟨rfl, rfl, rfl, rfl⟩ := hz
    simp only at h1
    cases hp : priB a b c with
    | false =>
      rw [hp] at hpri
      clear h1 hp
      go_enter Try.func37, Try.ntmps37
      go_wp2_with fail
      refine (hpri.out _).mono ?_
      rintro e1 w1 ⟨rfl, hB1⟩
      have k1 := H1.out.below hB1
      have HB : Hid (Below w.heap.size w w1) := Lib.hid (by repeat (first | with_reducible exact Below.refl _ _ | with_reducible assumption | ((with_reducible refine blA ?_ ?_); (focus (first | omega | (simp <;> omega)))) | (with_reducible refine blD ?_) | (with_reducible refine blN ?_) | ((with_reducible refine blS ?_ ?_); (focus (first | omega | (simp <;> omega)))) | ((with_reducible refine blT (by assumption) ?_ ?_); (focus (first | omega | (simp <;> omega))))))
      have c1 := k1.cell
      have f1 := k1.froz
      have l1 := k1.lt
      clear k1 hB1 H0 H1 hpri
      go_wp2_with fail
      refine bodyPost_ret (v := .tuple #[.agg #[.int .i64 0, .int .i64 0, .int .i64 0, .int .i64 0], .bool false]) (by go_light; simp [results, Try.results37, go_sem, *]) rfl ⟨rfl, ?_⟩
      have hq := HB.out
      repeat (first | with_reducible exact Below.refl _ _ | with_reducible assumption | ((with_reducible refine blA ?_ ?_); (focus (first | omega | (simp <;> omega)))) | (with_reducible refine blD ?_) | (with_reducible refine blN ?_) | ((with_reducible refine blS ?_ ?_); (focus (first | omega | (simp <;> omega)))) | ((with_reducible refine blT (by assumption) ?_ ?_); (focus (first | omega | (simp <;> omega)))))
    | true =>
      rw [hp] at hpri
      by_cases hk : k < -20
      · have hd1 : decide (k < -20) = true := decide_eq_true hk
        clear h1 hp hk
        go_enter Try.func37, Try.ntmps37
        go_wp2_with fail
        refine (hpri.out _).mono ?_
        rintro e1 w1 ⟨rfl, hB1⟩
        have k1 := H1.out.below hB1
        have HB : Hid (Below w.heap.size w w1) := Lib.hid (by repeat (first | with_reducible exact Below.refl _ _ | with_reducible assumption | ((with_reducible refine blA ?_ ?_); (focus (first | omega | (simp <;> omega)))) | (with_reducible refine blD ?_) | (with_reducible refine blN ?_) | ((with_reducible refine blS ?_ ?_); (focus (first | omega | (simp <;> omega)))) | ((with_reducible refine blT (by assumption) ?_ ?_); (focus (first | omega | (simp <;> omega))))))
        have c1 := k1.cell
        have f1 := k1.froz
        have l1 := k1.lt
        clear k1 hB1 H0 H1 hpri
        go_wp2_with fail
        refine bodyPost_ret (v := .tuple #[.agg #[.int .i64 0, .int .i64 0, .int .i64 0, .int .i64 0], .bool false]) (by go_light; simp [results, Try.results37, go_sem, *]) rfl ⟨rfl, ?_⟩
        have hq := HB.out
        repeat (first | with_reducible exact Below.refl _ _ | with_reducible assumption | ((with_reducible refine blA ?_ ?_); (focus (first | omega | (simp <;> omega)))) | (with_reducible refine blD ?_) | (with_reducible refine blN ?_) | ((with_reducible refine blS ?_ ?_); (focus (first | omega | (simp <;> omega)))) | ((with_reducible refine blT (by assumption) ?_ ?_); (focus (first | omega | (simp <;> omega)))))
      · have hd1 : decide (k < -20) = false := decide_eq_false hk
        have hd2 : decide (k > 20) = true := decide_eq_true (by
          refine Int.lt_of_not_ge fun hx => h1 ⟨hp, by omega, hx⟩)
        clear h1 hp hk
        go_enter Try.func37, Try.ntmps37
        go_wp2_with fail
        refine (hpri.out _).mono ?_
        rintro e1 w1 ⟨rfl, hB1⟩
        have k1 := H1.out.below hB1
        have HB : Hid (Below w.heap.size w w1) := Lib.hid (by repeat (first | with_reducible exact Below.refl _ _ | with_reducible assumption | ((with_reducible refine blA ?_ ?_); (focus (first | omega | (simp <;> omega)))) | (with_reducible refine blD ?_) | (with_reducible refine blN ?_) | ((with_reducible refine blS ?_ ?_); (focus (first | omega | (simp <;> omega)))) | ((with_reducible refine blT (by assumption) ?_ ?_); (focus (first | omega | (simp <;> omega))))))
        have c1 := k1.cell
        have f1 := k1.froz
        have l1 := k1.lt
        clear k1 hB1 H0 H1 hpri
        go_wp2_with fail
        refine bodyPost_ret (v := .tuple #[.agg #[.int .i64 0, .int .i64 0, .int .i64 0, .int .i64 0], .bool false]) (by go_light; simp [results, Try.results37, go_sem, *]) rfl ⟨rfl, ?_⟩
        have hq := HB.out
        repeat (first | with_reducible exact Below.refl _ _ | with_reducible assumption | ((with_reducible refine blA ?_ ?_); (focus (first | omega | (simp <;> omega)))) | (with_reducible refine blD ?_) | (with_reducible refine blN ?_) | ((with_reducible refine blS ?_ ?_); (focus (first | omega | (simp <;> omega)))) | ((with_reducible refine blT (by assumption) ?_ ?_); (focus (first | omega | (simp <;> omega)))))
set_option maxRecDepth 100000 in
set_option maxHeartbeats 8000000 in
theorem specIndef_any (a b c k m1 m2 m3 m4 : Int) (ok : Bool) (w : World) (h : IV (a, b, c) k (m1, m2, m3, m4) ok) :
    Calls Try.prog 40 #[.agg #[.int .i64 a, .int .i64 b, .int .i64 c], .int .i64 k] w fun en w' => en = .returned (.tuple #[.agg #[.int .i64 m1, .int .i64 m2, .int .i64 m3, .int .i64 m4], .bool ok]) ∧ Below w.heap.size w w' := by
  have hpri := Lib.hid fun w0 => unForm_any a b c w0
  have H0 : Hid (Blk w.heap.size 36 #[.int .i64 a, .int .i64 b, .int .i64 c] ((w.alloc (.cells #[.int .i64 a, .int .i64 b, .int .i64 c] 36)).alloc (.cells #[.int .i64 0, .int .i64 0, .int .i64 0, .int .i64 0] 40))) := Lib.hid ((Blk.new w _ _).alloc _)
  have H1 : Hid (Blk (w.heap.size + 1) 40 #[.int .i64 0, .int .i64 0, .int .i64 0, .int .i64 0] ((w.alloc (.cells #[.int .i64 a, .int .i64 b, .int .i64 c] 36)).alloc (.cells #[.int .i64 0, .int .i64 0, .int .i64 0, .int .i64 0] 40))) := Lib.hid (by
    have := Blk.new (w.alloc (.cells #[.int .i64 a, .int .i64 b, .int .i64 c] 36)) 40 #[.int .i64 0, .int .i64 0, .int .i64 0, .int .i64 0]
    simpa using this)
  rcases h with ⟨h1, k0, k1, h⟩ | ⟨h1, hz, rfl⟩
  · have hau := Lib.hid fun w0 => unAutomorph_any a b c k m1 m2 m3 m4 ok w0 (priB_ind h1).1 ⟨k0, k1⟩ h
    have HZ : Hid (ok = false → m1 = 0 ∧ m2 = 0 ∧ m3 = 0 ∧ m4 = 0) := Lib.hid fun hx => by
      obtain ⟨t, u, o, _, h⟩ := h
      subst hx
      rcases h with ⟨_, _, _, h⟩ | ⟨_, _, h, _⟩ | ⟨_, h, _⟩
      · cases h
      · simp only [Prod.mk.injEq] at h; exact h
      · simp only [Prod.mk.injEq] at h; exact h
    simp only at h1
    rw [h1] at hpri
    clear h h1
    have hin : Hid (∀ w1, Calls Try.prog 47 #[.int .i64 k, .int .i64 (-20), .int .i64 20] w1 fun e w' => e = .returned (.bool true) ∧ w1 = w') := Lib.hid fun w1 => by
      have := l1In_any k (-20) 20 w1
      rwa [show inB k (-20) 20 = true by unfold inB; simp; omega] at this
    clear k0 k1
    go_enter Try.func40, Try.ntmps40
    go_wp2_with fail
    refine (hpri.out _).mono ?_
    rintro e1 w1 ⟨rfl, hB1⟩
    have K0 := Lib.hid (H0.out.below hB1)
    have K1 := Lib.hid (H1.out.below hB1)
    have HB : Hid (Below w.heap.size w w1) := Lib.hid (by repeat (first | with_reducible exact Below.refl _ _ | with_reducible assumption | ((with_reducible refine blA ?_ ?_); (focus (first | omega | (simp <;> omega)))) | (with_reducible refine blD ?_) | (with_reducible refine blN ?_) | ((with_reducible refine blS ?_ ?_); (focus (first | omega | (simp <;> omega)))) | ((with_reducible refine blT (by assumption) ?_ ?_); (focus (first | omega | (simp <;> omega))))))
    clear hB1 H0 H1 hpri
    have c0 := K0.out.cell
    have l0 := K0.out.lt
    go_wp2_with (first | (go_at_call 47; refine (hin.out _).mono ?_; rintro e w' ⟨rfl, rfl⟩))
    refine (hau.out _).mono ?_
    rintro e2 w2 ⟨⟨⟨n1, n2, n3, n4⟩, rfl, hmt⟩, hB2⟩
    have k2 := K1.out.below hB2
    have HB2 := Lib.hid (HB.out.trans (hB2.mono HB.out.size))
    have c2 := k2.cell
    have f2 := k2.froz
    have l2 := k2.lt
    have hzb : w.heap.size + 1 < w2.heap.size := k2.lt
    have nb1 : ¬ w.heap.size + 1 = w2.heap.size := by omega
    have nb2 : ¬ w2.heap.size = w.heap.size + 1 := by omega
    clear k2 hB2 K0 K1 c0 l0 HB hau
    cases ok with
    | true =>
      have e9 := hmt rfl
      simp only [Prod.mk.injEq] at e9
      obtain ⟨rfl, rfl, rfl, rfl⟩ := e9
      clear hmt
      go_wp2_with fail
      refine bodyPost_ret (v := .tuple #[.agg #[.int .i64 n1, .int .i64 n2, .int .i64 n3, .int .i64 n4], .bool true]) (by go_light; simp [results, Try.results40, go_sem, *]) rfl ⟨rfl, ?_⟩
      have hq := HB2.out
      repeat (first | with_reducible exact Below.refl _ _ | with_reducible assumption | ((with_reducible refine blA ?_ ?_); (focus (first | omega | (simp <;> omega)))) | (with_reducible refine blD ?_) | (with_reducible refine blN ?_) | ((with_reducible refine blS ?_ ?_); (focus (first | omega | (simp <;> omega)))) | ((with_reducible refine blT (by assumption) ?_ ?_); (focus (first | omega | (simp <;> omega)))))
    | false =>
      obtain ⟨rfl, rfl, rfl, rfl⟩ := HZ.out rfl
      clear hmt
      go_wp2_with fail
      refine bodyPost_ret (v := .tuple #[.agg #[.int .i64 0, .int .i64 0, .int .i64 0, .int .i64 0], .bool false]) (by go_light; simp [results, Try.results40, go_sem, *]) rfl ⟨rfl, ?_⟩
      have hq := HB2.out
      repeat (first | with_reducible exact Below.refl _ _ | with_reducible assumption | ((with_reducible refine blA ?_ ?_); (focus (first | omega | (simp <;> omega)))) | (with_reducible refine blD ?_) | (with_reducible refine blN ?_) | ((with_reducible refine blS ?_ ?_); (focus (first | omega | (simp <;> omega)))) | ((with_reducible refine blT (by assumption) ?_ ?_); (focus (first | omega | (simp <;> omega)))))
  · simp only [Prod.mk.injEq] at hz
    obtain ⟨rfl, rfl, rfl, rfl⟩ := hz
    simp only at h1
    cases hp : priB a b c with
    | false =>
      rw [hp] at hpri
      clear h1 hp
      go_enter Try.func40, Try.ntmps40
      go_wp2_with fail
      refine (hpri.out _).mono ?_
      rintro e1 w1 ⟨rfl, hB1⟩
      have k1 := H1.out.below hB1
      have HB : Hid (Below w.heap.size w w1) := Lib.hid (by repeat (first | with_reducible exact Below.refl _ _ | with_reducible assumption | ((with_reducible refine blA ?_ ?_); (focus (first | omega | (simp <;> omega)))) | (with_reducible refine blD ?_) | (with_reducible refine blN ?_) | ((with_reducible refine blS ?_ ?_); (focus (first | omega | (simp <;> omega)))) | ((with_reducible refine blT (by assumption) ?_ ?_); (focus (first | omega | (simp <;> omega))))))
      have c1 := k1.cell
      have f1 := k1.froz
      have l1 := k1.lt
      clear k1 hB1 H0 H1 hpri
      go_wp2_with fail
      refine bodyPost_ret (v := .tuple #[.agg #[.int .i64 0, .int .i64 0, .int .i64 0, .int .i64 0], .bool false]) (by go_light; simp [results, Try.results40, go_sem, *]) rfl ⟨rfl, ?_⟩
      have hq := HB.out
      repeat (first | with_reducible exact Below.refl _ _ | with_reducible assumption | ((with_reducible refine blA ?_ ?_); (focus (first | omega | (simp <;> omega)))) | (with_reducible refine blD ?_) | (with_reducible refine blN ?_) | ((with_reducible refine blS ?_ ?_); (focus (first | omega | (simp <;> omega)))) | ((with_reducible refine blT (by assumption) ?_ ?_); (focus (first | omega | (simp <;> omega)))))
    | true =>
      rw [hp] at hpri
      have hin : Hid (∀ w1, Calls Try.prog 47 #[.int .i64 k, .int .i64 (-20), .int .i64 20] w1 fun e w' => e = .returned (.bool false) ∧ w1 = w') := Lib.hid fun w1 => by
        have := l1In_any k (-20) 20 w1
        rwa [show inB k (-20) 20 = false by unfold inB; exact decide_eq_false fun hx => h1 ⟨hp, hx.1, hx.2⟩] at this
      clear h1 hp
      go_enter Try.func40, Try.ntmps40
      go_wp2_with fail
      refine (hpri.out _).mono ?_
      rintro e1 w1 ⟨rfl, hB1⟩
      have k1 := H1.out.below hB1
      have HB : Hid (Below w.heap.size w w1) := Lib.hid (by repeat (first | with_reducible exact Below.refl _ _ | with_reducible assumption | ((with_reducible refine blA ?_ ?_); (focus (first | omega | (simp <;> omega)))) | (with_reducible refine blD ?_) | (with_reducible refine blN ?_) | ((with_reducible refine blS ?_ ?_); (focus (first | omega | (simp <;> omega)))) | ((with_reducible refine blT (by assumption) ?_ ?_); (focus (first | omega | (simp <;> omega))))))
      have c1 := k1.cell
      have f1 := k1.froz
      have l1 := k1.lt
      clear k1 hB1 H0 H1 hpri
      go_wp2_with (first | (go_at_call 47; refine (hin.out _).mono ?_; rintro e w' ⟨rfl, rfl⟩))
      refine bodyPost_ret (v := .tuple #[.agg #[.int .i64 0, .int .i64 0, .int .i64 0, .int .i64 0], .bool false]) (by go_light; simp [results, Try.results40, go_sem, *]) rfl ⟨rfl, ?_⟩
      have hq := HB.out
      repeat (first | with_reducible exact Below.refl _ _ | with_reducible assumption | ((with_reducible refine blA ?_ ?_); (focus (first | omega | (simp <;> omega)))) | (with_reducible refine blD ?_) | (with_reducible refine blN ?_) | ((with_reducible refine blS ?_ ?_); (focus (first | omega | (simp <;> omega)))) | ((with_reducible refine blT (by assumption) ?_ ?_); (focus (first | omega | (simp <;> omega)))))
/-- The blocks of the search. -/
structure EB (w wr : World) (a b c m1 m2 m3 m4 : Int) : Prop where
  f : Blk w.heap.size 36 #[.int .i64 a, .int .i64 b, .int .i64 c] wr
  m : Blk (w.heap.size + 1) 40 #[.int .i64 m1, .int .i64 m2, .int .i64 m3, .int .i64 m4] wr
  b : Below w.heap.size w wr
theorem EB.below {w wr w' : World} {a b c m1 m2 m3 m4 : Int} (h : EB w wr a b c m1 m2 m3 m4) (hb : Below wr.heap.size wr w') : EB w w' a b c m1 m2 m3 m4 :=
  ⟨h.f.below hb, h.m.below hb, h.b.trans (hb.mono h.b.size)⟩
theorem EB.alloc {w wr : World} {a b c m1 m2 m3 m4 : Int} (h : EB w wr a b c m1 m2 m3 m4) (o : Obj) : EB w (wr.alloc o) a b c m1 m2 m3 m4 :=
  ⟨h.f.alloc o, h.m.alloc o, h.b.alloc h.b.size _⟩
set_option maxRecDepth 100000 in
set_option maxHeartbeats 16000000 in
theorem automorphExponent_yes (a b c m1 m2 m3 m4 p1 p2 p3 p4 s : Int) (w : World) (hpr : priB a b c = true) (hm : mle 1000000 (m1, m2, m3, m4)) (hA : AV (a, b, c) 1 (p1, p2, p3, p4) true)
    (hno : ∀ k n, -20 ≤ k → k ≤ 0 → AV (a, b, c) k n true → n ≠ (m1, m2, m3, m4) ∧ mneg n ≠ (m1, m2, m3, m4)) (hs : (s = 1 ∧ (p1, p2, p3, p4) = ((m1, m2, m3, m4) : Mt)) ∨ (s = -1 ∧ (p1, p2, p3, p4) ≠ ((m1, m2, m3, m4) : Mt) ∧ mneg (p1, p2, p3, p4) = (m1, m2, m3, m4))) :
    Calls Try.prog 36 #[.agg #[.int .i64 a, .int .i64 b, .int .i64 c], .agg #[.int .i64 m1, .int .i64 m2, .int .i64 m3, .int .i64 m4]] w fun en w' => en = .returned (.tuple #[.int .i64 s, .int .i64 1, .bool true]) ∧ Below w.heap.size w w' := by
  obtain ⟨hi, _⟩ := priB_ind hpr
  have hpri : Hid (∀ w0, Calls Try.prog 96 #[.agg #[.int .i64 a, .int .i64 b, .int .i64 c]] w0 fun en w' => en = .returned (.bool true) ∧ Below w0.heap.size w0 w') := Lib.hid fun w0 => by have h := isPri_any a b c w0; rwa [hpr] at h
  have hmat : Hid (∀ w0, Calls Try.prog 70 #[.agg #[.int .i64 m1, .int .i64 m2, .int .i64 m3, .int .i64 m4]] w0 fun en w' => en = .returned (.bool true) ∧ Below w0.heap.size w0 w') := Lib.hid fun w0 => by have h := iMatrix_any m1 m2 m3 m4 w0; rwa [mB_mle.2 hm] at h
  have H0 : Hid (EB w ((w.alloc (.cells #[.int .i64 a, .int .i64 b, .int .i64 c] 36)).alloc (.cells #[.int .i64 m1, .int .i64 m2, .int .i64 m3, .int .i64 m4] 40)) a b c m1 m2 m3 m4) := Lib.hid ⟨(Blk.new w _ _).alloc _, by
    have := Blk.new (w.alloc (.cells #[.int .i64 a, .int .i64 b, .int .i64 c] 36)) 40 #[.int .i64 m1, .int .i64 m2, .int .i64 m3, .int .i64 m4]
    simpa using this, ((Below.refl _ _).alloc (Nat.le_refl _) _).alloc (by simp) _⟩
  have HA := Lib.hid hA
  have HNO := Lib.hid hno
  have HS := Lib.hid hs
  have HI := Lib.hid hi
  clear hpr hm hA hno hs hi
  go_enter Try.func36, Try.ntmps36
  go_wp2_with fail
  refine (hpri.out _).mono ?_
  rintro e1 w1 ⟨rfl, hB1⟩
  have K1 := Lib.hid (H0.out.below hB1)
  have c1 := K1.out.m.cell
  have l1 := K1.out.m.lt
  clear hB1 H0 hpri
  go_wp2_with fail
  refine (hmat.out _).mono ?_
  rintro e2 w2 ⟨rfl, hB2⟩
  have K2 := Lib.hid (K1.out.below hB2)
  clear hB2 K1 hmat c1 l1
  go_wp2_with fail
  go_loopw [7] (fun kv wr => ∃ j : Nat, kv = .int .i64 ((j : Int) - 20) ∧ j ≤ 21 ∧ Hid (EB w wr a b c m1 m2 m3 m4)) (fun kv _ => (1 - intOf kv).toNat)
  case atStart => exact ⟨0, rfl, by omega, K2⟩
  case round =>
    clear K2
    obtain ⟨j, rfl, hj, hK⟩ := hrel
    obtain ⟨k, hk⟩ : ∃ k : Int, (j : Int) - 20 = k := ⟨_, rfl⟩
    rw [hk]
    have hle : decide (k ≤ 20) = true := decide_eq_true (by omega)
    by_cases hj2 : j < 21
    · obtain ⟨⟨n1, n2, n3, n4⟩, okn, hav⟩ := AV.exist (f := (a, b, c)) (ind_posF HI.out) k
      have hau := Lib.hid fun w0 => automorph_any a b c k n1 n2 n3 n4 okn w0 HI.out ⟨by omega, by omega⟩ hav
      have HN : Hid (okn = true → ¬ ((m1, m2, m3, m4) : Mt) = (n1, n2, n3, n4) ∧ ¬ ((m1, m2, m3, m4) : Mt) = (-n1, -n2, -n3, -n4) ∧ mle 1000000 (n1, n2, n3, n4)) := Lib.hid fun h => by
        subst h
        obtain ⟨h1, h2⟩ := HNO.out k _ (by omega) (by omega) hav
        exact ⟨fun h => h1 h.symm, fun h => h2 h.symm, (hav.good (ind_posF HI.out)).1⟩
      have hwk : wrap64 (k + 1) = k + 1 := by unfold wrap64; omega
      clear hav
      have cf := hK.out.f.cell
      have lf := hK.out.f.lt
      go_wp2_with fail
      refine (hau.out _).mono ?_
      rintro e3 w3 ⟨rfl, hB3⟩
      have K3 := Lib.hid (hK.out.below hB3)
      clear hB3 hK hau cf lf
      obtain ⟨V, hV, K4, KN⟩ : ∃ V, w3.alloc (.cells #[.int .i64 n1, .int .i64 n2, .int .i64 n3, .int .i64 n4] 40) = V ∧ Hid (EB w V a b c m1 m2 m3 m4) ∧ Hid (Blk w3.heap.size 40 #[.int .i64 n1, .int .i64 n2, .int .i64 n3, .int .i64 n4] V) := ⟨_, rfl, Lib.hid (K3.out.alloc _), Lib.hid (Blk.new _ _ _)⟩
      obtain ⟨nb, hnb⟩ : ∃ nb, w3.heap.size = nb := ⟨_, rfl⟩
      rw [hnb] at KN
      clear K3
      cases okn with
      | false =>
        clear HN
        go_wp2_with fail
        try rw [hV]
        go_roundw
        case rel =>
          go_light
          exact ⟨j + 1, by rw [← hk]; congr 1; push_cast; omega, by omega, K4⟩
        case measure => simp [intOf]; omega
      | true =>
        obtain ⟨hn1, hn2, hn3⟩ := HN.out rfl
        obtain ⟨x1, x2, x3, x4⟩ := hn3
        simp only at x1 x2 x3 x4
        obtain ⟨v1, hv1⟩ : ∃ v, -n1 = v := ⟨_, rfl⟩
        obtain ⟨v2, hv2⟩ : ∃ v, -n2 = v := ⟨_, rfl⟩
        obtain ⟨v3, hv3⟩ : ∃ v, -n3 = v := ⟨_, rfl⟩
        obtain ⟨v4, hv4⟩ : ∃ v, -n4 = v := ⟨_, rfl⟩
        rw [hv1, hv2, hv3, hv4] at hn2
        have y1 : wrap64 (-n1) = v1 := by rw [← hv1]; unfold wrap64; omega
        have y2 : wrap64 (-n2) = v2 := by rw [← hv2]; unfold wrap64; omega
        have y3 : wrap64 (-n3) = v3 := by rw [← hv3]; unfold wrap64; omega
        have y4 : wrap64 (-n4) = v4 := by rw [← hv4]; unfold wrap64; omega
        clear HN x1 x2 x3 x4 hv1 hv2 hv3 hv4
        have cm := K4.out.m.cell
        have lm := K4.out.m.lt
        have cn := KN.out.cell
        have ln := KN.out.lt
        go_upto_region 8 with fail
        try rw [hV]
        go_cut [32] from 18 to 49 (fun s32 wx => s32 = .bool false ∧ wx = V)
        case first =>
          have sp4 : ¬ m1 = n1 ∨ (m1 = n1 ∧ ¬ m2 = n2) ∨ (m1 = n1 ∧ m2 = n2 ∧ ¬ m3 = n3) ∨ (m1 = n1 ∧ m2 = n2 ∧ m3 = n3 ∧ ¬ m4 = n4) := by
            by_cases e1 : m1 = n1
            · by_cases e2 : m2 = n2
              · by_cases e3 : m3 = n3
                · exact .inr (.inr (.inr ⟨e1, e2, e3, fun e4 => hn1 (by rw [e1, e2, e3, e4])⟩))
                · exact .inr (.inr (.inl ⟨e1, e2, e3⟩))
              · exact .inr (.inl ⟨e1, e2⟩)
            · exact .inl e1
          clear hn1
          rcases sp4 with e1 | ⟨e1, e2⟩ | ⟨e1, e2, e3⟩ | ⟨e1, e2, e3, e4⟩
          · have g1 : (m1 == n1) = false := by simp [e1]
            clear e1
            go_wp2_with fail
            go_meet
            case rel => exact ⟨rfl, rfl⟩
          · have g1 : (m1 == n1) = true := by simp [e1]
            have g2 : (m2 == n2) = false := by simp [e2]
            clear e1 e2
            go_wp2_with fail
            go_meet
            case rel => exact ⟨rfl, rfl⟩
          · have g1 : (m1 == n1) = true := by simp [e1]
            have g2 : (m2 == n2) = true := by simp [e2]
            have g3 : (m3 == n3) = false := by simp [e3]
            clear e1 e2 e3
            go_wp2_with fail
            go_meet
            case rel => exact ⟨rfl, rfl⟩
          · have g1 : (m1 == n1) = true := by simp [e1]
            have g2 : (m2 == n2) = true := by simp [e2]
            have g3 : (m3 == n3) = true := by simp [e3]
            have g4 : (m4 == n4) = false := by simp [e4]
            clear e1 e2 e3 e4
            go_wp2_with fail
            go_meet
            case rel => exact ⟨rfl, rfl⟩
        case rest =>
        obtain ⟨rfl, rfl⟩ := hcut
        clear hn1
        go_upto_region 10 with fail
        go_cut [48] from 18 to 49 (fun s48 wx => s48 = .bool false ∧ wx = wc)
        case first =>
          have sp4 : ¬ m1 = v1 ∨ (m1 = v1 ∧ ¬ m2 = v2) ∨ (m1 = v1 ∧ m2 = v2 ∧ ¬ m3 = v3) ∨ (m1 = v1 ∧ m2 = v2 ∧ m3 = v3 ∧ ¬ m4 = v4) := by
            by_cases e1 : m1 = v1
            · by_cases e2 : m2 = v2
              · by_cases e3 : m3 = v3
                · exact .inr (.inr (.inr ⟨e1, e2, e3, fun e4 => hn2 (by rw [e1, e2, e3, e4])⟩))
                · exact .inr (.inr (.inl ⟨e1, e2, e3⟩))
              · exact .inr (.inl ⟨e1, e2⟩)
            · exact .inl e1
          clear hn2
          rcases sp4 with e1 | ⟨e1, e2⟩ | ⟨e1, e2, e3⟩ | ⟨e1, e2, e3, e4⟩
          · have g1 : (m1 == v1) = false := by simp [e1]
            clear e1
            go_wp2_with fail
            go_meet
            case rel => exact ⟨rfl, rfl⟩
          · have g1 : (m1 == v1) = true := by simp [e1]
            have g2 : (m2 == v2) = false := by simp [e2]
            clear e1 e2
            go_wp2_with fail
            go_meet
            case rel => exact ⟨rfl, rfl⟩
          · have g1 : (m1 == v1) = true := by simp [e1]
            have g2 : (m2 == v2) = true := by simp [e2]
            have g3 : (m3 == v3) = false := by simp [e3]
            clear e1 e2 e3
            go_wp2_with fail
            go_meet
            case rel => exact ⟨rfl, rfl⟩
          · have g1 : (m1 == v1) = true := by simp [e1]
            have g2 : (m2 == v2) = true := by simp [e2]
            have g3 : (m3 == v3) = true := by simp [e3]
            have g4 : (m4 == v4) = false := by simp [e4]
            clear e1 e2 e3 e4
            go_wp2_with fail
            go_meet
            case rel => exact ⟨rfl, rfl⟩
        case rest =>
        obtain ⟨rfl, rfl⟩ := hcut
        clear hn2 cm lm cn ln
        go_wp2_with fail
        go_roundw
        case rel =>
          go_light
          exact ⟨j + 1, by rw [← hk]; congr 1; push_cast; omega, by omega, K4⟩
        case measure => simp [intOf]; omega
    · have hj3 : j = 21 := by omega
      subst hj3
      obtain rfl : k = 1 := by omega
      have hau := Lib.hid fun w0 => automorph_any a b c 1 p1 p2 p3 p4 true w0 HI.out ⟨by omega, by omega⟩ HA.out
      obtain ⟨x1, x2, x3, x4⟩ := (HA.out.good (ind_posF HI.out)).1
      simp only at x1 x2 x3 x4
      clear hk hj hj2 HNO
      have cf := hK.out.f.cell
      have lf := hK.out.f.lt
      go_wp2_with fail
      refine (hau.out _).mono ?_
      rintro e3 w3 ⟨rfl, hB3⟩
      have K3 := Lib.hid (hK.out.below hB3)
      clear hB3 hK hau cf lf
      obtain ⟨V, hV, K4, KN⟩ : ∃ V, w3.alloc (.cells #[.int .i64 p1, .int .i64 p2, .int .i64 p3, .int .i64 p4] 40) = V ∧ Hid (EB w V a b c m1 m2 m3 m4) ∧ Hid (Blk w3.heap.size 40 #[.int .i64 p1, .int .i64 p2, .int .i64 p3, .int .i64 p4] V) := ⟨_, rfl, Lib.hid (K3.out.alloc _), Lib.hid (Blk.new _ _ _)⟩
      obtain ⟨nb, hnb⟩ : ∃ nb, w3.heap.size = nb := ⟨_, rfl⟩
      rw [hnb] at KN
      clear K3
      have cm := K4.out.m.cell
      have lm := K4.out.m.lt
      have cn := KN.out.cell
      have ln := KN.out.lt
      have HB := Lib.hid K4.out.b
      rcases HS.out with ⟨rfl, hpm⟩ | ⟨rfl, hne, hpm⟩
      · simp only [Prod.mk.injEq] at hpm
        obtain ⟨rfl, rfl, rfl, rfl⟩ := hpm
        clear K4 KN x1 x2 x3 x4 HA HS HI
        go_wp2_with fail
        try rw [hV]
        (refine bodyPost_ret (v := .tuple #[.int .i64 1, .int .i64 1, .bool true]) (by go_light; simp [results, Try.results36, go_sem]) rfl ⟨rfl, ?_⟩)
        exact HB.out
      · simp only [mneg, Prod.mk.injEq] at hpm
        obtain ⟨h1, h2, h3, h4⟩ := hpm
        have y1 : wrap64 (-p1) = m1 := by rw [← h1]; unfold wrap64; omega
        have y2 : wrap64 (-p2) = m2 := by rw [← h2]; unfold wrap64; omega
        have y3 : wrap64 (-p3) = m3 := by rw [← h3]; unfold wrap64; omega
        have y4 : wrap64 (-p4) = m4 := by rw [← h4]; unfold wrap64; omega
        have hn1 : ¬ ((m1, m2, m3, m4) : Mt) = (p1, p2, p3, p4) := fun h => hne h.symm
        clear h1 h2 h3 h4 x1 x2 x3 x4 hne HA HS HI
        go_upto_region 8 with fail
        try rw [hV]
        go_cut [32] from 18 to 49 (fun s32 wx => s32 = .bool false ∧ wx = V)
        case first =>
          have sp4 : ¬ m1 = p1 ∨ (m1 = p1 ∧ ¬ m2 = p2) ∨ (m1 = p1 ∧ m2 = p2 ∧ ¬ m3 = p3) ∨ (m1 = p1 ∧ m2 = p2 ∧ m3 = p3 ∧ ¬ m4 = p4) := by
            by_cases e1 : m1 = p1
            · by_cases e2 : m2 = p2
              · by_cases e3 : m3 = p3
                · exact .inr (.inr (.inr ⟨e1, e2, e3, fun e4 => hn1 (by rw [e1, e2, e3, e4])⟩))
                · exact .inr (.inr (.inl ⟨e1, e2, e3⟩))
              · exact .inr (.inl ⟨e1, e2⟩)
            · exact .inl e1
          clear hn1
          rcases sp4 with e1 | ⟨e1, e2⟩ | ⟨e1, e2, e3⟩ | ⟨e1, e2, e3, e4⟩
          · have g1 : (m1 == p1) = false := by simp [e1]
            clear e1
            go_wp2_with fail
            go_meet
            case rel => exact ⟨rfl, rfl⟩
          · have g1 : (m1 == p1) = true := by simp [e1]
            have g2 : (m2 == p2) = false := by simp [e2]
            clear e1 e2
            go_wp2_with fail
            go_meet
            case rel => exact ⟨rfl, rfl⟩
          · have g1 : (m1 == p1) = true := by simp [e1]
            have g2 : (m2 == p2) = true := by simp [e2]
            have g3 : (m3 == p3) = false := by simp [e3]
            clear e1 e2 e3
            go_wp2_with fail
            go_meet
            case rel => exact ⟨rfl, rfl⟩
          · have g1 : (m1 == p1) = true := by simp [e1]
            have g2 : (m2 == p2) = true := by simp [e2]
            have g3 : (m3 == p3) = true := by simp [e3]
            have g4 : (m4 == p4) = false := by simp [e4]
            clear e1 e2 e3 e4
            go_wp2_with fail
            go_meet
            case rel => exact ⟨rfl, rfl⟩
        case rest =>
        obtain ⟨rfl, rfl⟩ := hcut
        clear hn1
        go_wp2_with fail
        (refine bodyPost_ret (v := .tuple #[.int .i64 (-1), .int .i64 1, .bool true]) (by go_light; simp [results, Try.results36, go_sem]) rfl ⟨rfl, ?_⟩)
        exact HB.out
end Go.Proofs.Ytemnkfigjpphgaa
