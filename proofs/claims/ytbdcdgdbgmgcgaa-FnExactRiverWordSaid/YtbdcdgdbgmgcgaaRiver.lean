/-
  The river: its edges and steps.
-/
import Derived.Test.YtbdcdgdbgmgcgaaForm
import Derived.Test.YtbdcdgdbgmgcgaaRoot
namespace Go.Proofs.Ytbdcdgdbgmgcgaa
open Go.RowKit
attribute [local simp, local go_sem] past_cell past_frozen past_tape
def rivB (a b c : Int) : Bool := formB a b c && decide (0 < discW a b c) && decide (discW a b c ≤ 2000) && !sqB (discW a b c)
set_option maxHeartbeats 800000 in
theorem hasRiver_any (a b c : Int) (w : World) :
    Calls Try.prog 66 #[.agg #[.int .i64 a, .int .i64 b, .int .i64 c]] w fun e w' => e = .returned (.bool (rivB a b c)) ∧ Below w.heap.size w w' := by
  go_enter Try.func66, Try.ntmps66
  go_wp2_with (first | (go_at_call 31; refine (IsForm_any _ _ _ _).mono ?_; rintro e w' ⟨rfl, hB⟩; obtain ⟨hC, hF⟩ := bcell hB; have hS := hB.size; (try simp at hS); (try have hSl := Nat.lt_of_succ_le hS); (try have hS0 : w.heap.size < w'.heap.size := by omega); (try have hS1 : w.heap.size + 1 < w'.heap.size := by omega); (try have hS2 : w.heap.size + 1 + 1 < w'.heap.size := by omega); (try have hS3 : w.heap.size + 1 + 1 + 1 < w'.heap.size := by omega)) | (go_at_call 63; refine (disc_any _ _ _ _).mono ?_; rintro e w' ⟨rfl, hB⟩; obtain ⟨hC, hF⟩ := bcell hB; have hS := hB.size; (try simp at hS); (try have hSl := Nat.lt_of_succ_le hS); (try have hS0 : w.heap.size < w'.heap.size := by omega); (try have hS1 : w.heap.size + 1 < w'.heap.size := by omega); (try have hS2 : w.heap.size + 1 + 1 < w'.heap.size := by omega); (try have hS3 : w.heap.size + 1 + 1 + 1 < w'.heap.size := by omega)) | (go_at_call 70; refine (isSquare_any _ _ (by omega)).mono ?_; rintro e w' ⟨rfl, rfl⟩))
  all_goals
    go_ret
    refine ⟨ret_bool ?_, ?_⟩
    · go_light
      unfold rivB
      simp [*]
      try omega
    · repeat (first | with_reducible exact Below.refl _ _ | with_reducible assumption | ((with_reducible refine blA ?_ ?_); (focus (first | omega | (simp <;> omega)))) | (with_reducible refine blD ?_) | (with_reducible refine blN ?_) | ((with_reducible refine blS ?_ ?_); (focus (first | omega | (simp <;> omega)))) | ((with_reducible refine blT (by assumption) ?_ ?_); (focus (first | omega | (simp <;> omega)))))
set_option maxHeartbeats 800000 in
theorem tpWet_any (a b c : Int) (w : World) :
    Calls Try.prog 37 #[.agg #[.int .i64 a, .int .i64 b, .int .i64 c]] w fun e w' => e = .returned (.bool (rivB a b c)) ∧ Below w.heap.size w w' := by
  have hin : Hid (inB (discW a b c) 1 2000 = (decide (0 < discW a b c) && decide (discW a b c ≤ 2000))) := by
    show _ = _
    unfold inB
    rw [Bool.eq_iff_iff]; simp; omega
  by_cases c2 : discW a b c ≤ 2000
  · go_enter Try.func37, Try.ntmps37
    go_wp2_with (first | (go_at_call 29; refine (foGood_any _ _ _ _).mono ?_; rintro e w' ⟨rfl, hB⟩; obtain ⟨hC, hF⟩ := bcell hB; have hS := hB.size; (try simp at hS); (try have hSl := Nat.lt_of_succ_le hS); (try have hS0 : w.heap.size < w'.heap.size := by omega); (try have hS1 : w.heap.size + 1 < w'.heap.size := by omega); (try have hS2 : w.heap.size + 1 + 1 < w'.heap.size := by omega); (try have hS3 : w.heap.size + 1 + 1 + 1 < w'.heap.size := by omega)) | (go_at_call 61; refine (foDisc_any _ _ _ _).mono ?_; rintro e w' ⟨rfl, hB⟩; obtain ⟨hC, hF⟩ := bcell hB; have hS := hB.size; (try simp at hS); (try have hSl := Nat.lt_of_succ_le hS); (try have hS0 : w.heap.size < w'.heap.size := by omega); (try have hS1 : w.heap.size + 1 < w'.heap.size := by omega); (try have hS2 : w.heap.size + 1 + 1 < w'.heap.size := by omega); (try have hS3 : w.heap.size + 1 + 1 + 1 < w'.heap.size := by omega)) | (go_at_call 64; refine (l1In_any _ _ _ _).mono ?_; rintro e w' ⟨rfl, rfl⟩) | (go_at_call 65; refine (nuSquare_any _ _ (by omega)).mono ?_; rintro e w' ⟨rfl, rfl⟩))
    all_goals
      go_ret
      refine ⟨ret_bool ?_, ?_⟩
      · go_light
        have hin := hin.out
        simp_all [rivB]
        all_goals (first | omega | (intros; omega))
      · repeat (first | with_reducible exact Below.refl _ _ | with_reducible assumption | ((with_reducible refine blA ?_ ?_); (focus (first | omega | (simp <;> omega)))) | (with_reducible refine blD ?_) | (with_reducible refine blN ?_) | ((with_reducible refine blS ?_ ?_); (focus (first | omega | (simp <;> omega)))) | ((with_reducible refine blT (by assumption) ?_ ?_); (focus (first | omega | (simp <;> omega)))))
  · have hin' : inB (discW a b c) 1 2000 = false := by rw [hin.out]; simp [c2]
    clear hin
    have hs : Hid (rivB a b c = false) := by show _ = _; simp [rivB, c2]
    go_enter Try.func37, Try.ntmps37
    go_wp2_with (first | (go_at_call 29; refine (foGood_any _ _ _ _).mono ?_; rintro e w' ⟨rfl, hB⟩; obtain ⟨hC, hF⟩ := bcell hB; have hS := hB.size; (try simp at hS); (try have hSl := Nat.lt_of_succ_le hS); (try have hS0 : w.heap.size < w'.heap.size := by omega); (try have hS1 : w.heap.size + 1 < w'.heap.size := by omega); (try have hS2 : w.heap.size + 1 + 1 < w'.heap.size := by omega); (try have hS3 : w.heap.size + 1 + 1 + 1 < w'.heap.size := by omega)) | (go_at_call 61; refine (foDisc_any _ _ _ _).mono ?_; rintro e w' ⟨rfl, hB⟩; obtain ⟨hC, hF⟩ := bcell hB; have hS := hB.size; (try simp at hS); (try have hSl := Nat.lt_of_succ_le hS); (try have hS0 : w.heap.size < w'.heap.size := by omega); (try have hS1 : w.heap.size + 1 < w'.heap.size := by omega); (try have hS2 : w.heap.size + 1 + 1 < w'.heap.size := by omega); (try have hS3 : w.heap.size + 1 + 1 + 1 < w'.heap.size := by omega)) | (go_at_call 64; refine (l1In_any _ _ _ _).mono ?_; rintro e w' ⟨rfl, rfl⟩))
    all_goals
      go_ret
      refine ⟨ret_bool ?_, ?_⟩
      · go_light; rw [hs.out]
      · repeat (first | with_reducible exact Below.refl _ _ | with_reducible assumption | ((with_reducible refine blA ?_ ?_); (focus (first | omega | (simp <;> omega)))) | (with_reducible refine blD ?_) | (with_reducible refine blN ?_) | ((with_reducible refine blS ?_ ?_); (focus (first | omega | (simp <;> omega)))) | ((with_reducible refine blT (by assumption) ?_ ?_); (focus (first | omega | (simp <;> omega)))))
def edgeB (a b c : Int) : Bool := rivB a b c && decide (0 < a) && decide (c < 0)
theorem edgeB_form {a b c : Int} (h : edgeB a b c = true) : formB a b c = true := by
  simp only [edgeB, rivB, Bool.and_eq_true] at h
  exact h.1.1.1.1.1
theorem isRiverEdge_any (a b c : Int) (w : World) :
    Calls Try.prog 39 #[.agg #[.int .i64 a, .int .i64 b, .int .i64 c]] w fun e w' => e = .returned (.bool (edgeB a b c)) ∧ Below w.heap.size w w' := by
  go_enter Try.func39, Try.ntmps39
  go_wp2_with (go_at_call 66; refine (hasRiver_any _ _ _ _).mono ?_; rintro e w' ⟨rfl, hB⟩; obtain ⟨hC, hF⟩ := bcell hB; have hS := hB.size; (try simp at hS); (try have hSl := Nat.lt_of_succ_le hS); (try have hS0 : w.heap.size < w'.heap.size := by omega); (try have hS1 : w.heap.size + 1 < w'.heap.size := by omega); (try have hS2 : w.heap.size + 1 + 1 < w'.heap.size := by omega); (try have hS3 : w.heap.size + 1 + 1 + 1 < w'.heap.size := by omega))
  all_goals
    go_ret
    refine ⟨ret_bool ?_, ?_⟩
    · go_light
      unfold edgeB
      simp [*]
      try omega
    · repeat (first | with_reducible exact Below.refl _ _ | with_reducible assumption | ((with_reducible refine blA ?_ ?_); (focus (first | omega | (simp <;> omega)))) | (with_reducible refine blD ?_) | (with_reducible refine blN ?_) | ((with_reducible refine blS ?_ ?_); (focus (first | omega | (simp <;> omega)))) | ((with_reducible refine blT (by assumption) ?_ ?_); (focus (first | omega | (simp <;> omega)))))
/-- One step along the river. -/
def fA (a b c : Int) : Int := if 0 < a + b + c then a + b + c else a
def fB (a b c : Int) : Int := if 0 < a + b + c then b + 2 * c else b + 2 * a
def fC (a b c : Int) : Int := if 0 < a + b + c then c else a + b + c
def fS (a b c : Int) : ByteArray := if 0 < a + b + c then ⟨#[112]⟩ else ⟨#[110]⟩
theorem riverStep_any (a b c : Int) (w : World) (ha : Bd 1000000 a) (hb : Bd 1000000 b) (hc : Bd 1000000 c) :
    Calls Try.prog 40 #[.agg #[.int .i64 a, .int .i64 b, .int .i64 c]] w fun e w' => e = .returned (.tuple #[.agg #[.int .i64 (fA a b c), .int .i64 (fB a b c), .int .i64 (fC a b c)], .string (fS a b c)]) ∧ Below w.heap.size w w' := by
  obtain ⟨a1, a2⟩ := ha
  obtain ⟨b1, b2⟩ := hb
  obtain ⟨c1, c2⟩ := hc
  by_cases hs : 0 < a + b + c
  · go_enter Try.func40, Try.ntmps40
    go_wp2
    refine bodyPost_ret (v := .tuple #[.agg #[.int .i64 (a + b + c), .int .i64 (b + 2 * c), .int .i64 c], .string ⟨#[112]⟩]) (by go_light; simp [results, Try.results40, go_sem]) rfl ⟨by simp [fA, fB, fC, fS, hs], ?_⟩
    repeat (first | with_reducible exact Below.refl _ _ | with_reducible assumption | ((with_reducible refine blA ?_ ?_); (focus (first | omega | (simp <;> omega)))) | (with_reducible refine blD ?_) | (with_reducible refine blN ?_) | ((with_reducible refine blS ?_ ?_); (focus (first | omega | (simp <;> omega)))) | ((with_reducible refine blT (by assumption) ?_ ?_); (focus (first | omega | (simp <;> omega)))))
  · go_enter Try.func40, Try.ntmps40
    go_wp2
    refine bodyPost_ret (v := .tuple #[.agg #[.int .i64 a, .int .i64 (b + 2 * a), .int .i64 (a + b + c)], .string ⟨#[110]⟩]) (by go_light; simp [results, Try.results40, go_sem]) rfl ⟨by rw [fA, fB, fC, fS, if_neg (by omega), if_neg (by omega), if_neg (by omega), if_neg (by omega)], ?_⟩
    repeat (first | with_reducible exact Below.refl _ _ | with_reducible assumption | ((with_reducible refine blA ?_ ?_); (focus (first | omega | (simp <;> omega)))) | (with_reducible refine blD ?_) | (with_reducible refine blN ?_) | ((with_reducible refine blS ?_ ?_); (focus (first | omega | (simp <;> omega)))) | ((with_reducible refine blT (by assumption) ?_ ?_); (focus (first | omega | (simp <;> omega)))))
theorem tpFlow_any (a b c : Int) (w : World) (ha : Bd 1000000 a) (hb : Bd 1000000 b) (hc : Bd 1000000 c) :
    Calls Try.prog 38 #[.agg #[.int .i64 a, .int .i64 b, .int .i64 c]] w fun e w' => e = .returned (.tuple #[.agg #[.int .i64 (fA a b c), .int .i64 (fB a b c), .int .i64 (fC a b c)], .bool (decide (0 < a + b + c))]) ∧ Below w.heap.size w w' := by
  obtain ⟨a1, a2⟩ := ha
  obtain ⟨b1, b2⟩ := hb
  obtain ⟨c1, c2⟩ := hc
  by_cases hs : 0 < a + b + c
  · go_enter Try.func38, Try.ntmps38
    go_wp2
    refine bodyPost_ret (v := .tuple #[.agg #[.int .i64 (a + b + c), .int .i64 (b + 2 * c), .int .i64 c], .bool true]) (by go_light; simp [results, Try.results38, go_sem]) rfl ⟨by simp [fA, fB, fC, hs], ?_⟩
    repeat (first | with_reducible exact Below.refl _ _ | with_reducible assumption | ((with_reducible refine blA ?_ ?_); (focus (first | omega | (simp <;> omega)))) | (with_reducible refine blD ?_) | (with_reducible refine blN ?_) | ((with_reducible refine blS ?_ ?_); (focus (first | omega | (simp <;> omega)))) | ((with_reducible refine blT (by assumption) ?_ ?_); (focus (first | omega | (simp <;> omega)))))
  · have hs' : Hid (decide (0 < a + b + c) = false) := by show _ = _; simpa using hs
    go_enter Try.func38, Try.ntmps38
    go_wp2
    refine bodyPost_ret (v := .tuple #[.agg #[.int .i64 a, .int .i64 (b + 2 * a), .int .i64 (a + b + c)], .bool false]) (by go_light; simp [results, Try.results38, go_sem]) rfl ⟨by rw [fA, fB, fC, if_neg (by omega), if_neg (by omega), if_neg (by omega), hs'.out], ?_⟩
    repeat (first | with_reducible exact Below.refl _ _ | with_reducible assumption | ((with_reducible refine blA ?_ ?_); (focus (first | omega | (simp <;> omega)))) | (with_reducible refine blD ?_) | (with_reducible refine blN ?_) | ((with_reducible refine blS ?_ ?_); (focus (first | omega | (simp <;> omega)))) | ((with_reducible refine blT (by assumption) ?_ ?_); (focus (first | omega | (simp <;> omega)))))
end Go.Proofs.Ytbdcdgdbgmgcgaa
