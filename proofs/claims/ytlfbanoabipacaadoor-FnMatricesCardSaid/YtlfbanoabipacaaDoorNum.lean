/-
  The contracts of the functions of chapter 1 (integers): what each call returns, for arguments that fit in 64 bits.
-/
import Derived.Test.YtlfbanoabipacaaDoorTail
namespace Go.Proofs.YtlfbanoabipacaaDoor
open Go.RowKit
attribute [local simp, local go_sem] past_cell past_frozen past_tape

theorem abs_any (n : Int) (w : World) (h : I64 n) :
    Calls Tryd.prog 36 #[.int .i64 n] w fun e w' => e = .returned (.int .i64 (absI n)) ∧ w = w' := by
  obtain ⟨h1, h2⟩ := h
  by_cases hm : n < -9223372036854775807
  all_goals
    go_enter Tryd.func36, Tryd.ntmps36
    go_wp2
  all_goals
    go_ret
    refine ⟨ret_int ?_, rfl⟩
    unfold absI
    repeat' split
    all_goals omega
theorem abs_nat (n : Int) (w : World) (h : J64 n) :
    Calls Tryd.prog 36 #[.int .i64 n] w fun e w' => e = .returned (.int .i64 n.natAbs) ∧ w = w' :=
  (abs_any n w h.i).mono fun _ _ ⟨he, hw⟩ => ⟨by rw [he, absI_of h], hw⟩
theorem l1Most_any (a b : Int) (w : World) :
    Calls Tryd.prog 67 #[.int .i64 a, .int .i64 b] w fun e w' => e = .returned (.int .i64 (max a b)) ∧ w = w' := by
  go_enter Tryd.func67, Tryd.ntmps67
  go_wp2
  all_goals
    go_ret
    exact ⟨ret_int (by omega), rfl⟩
theorem l1Abs_any (a : Int) (w : World) (ha : J64 a) :
    Calls Tryd.prog 40 #[.int .i64 a] w fun e w' => e = .returned (.int .i64 a.natAbs) ∧ w = w' := by
  obtain ⟨a1, a2⟩ := ha
  go_enter Tryd.func40, Tryd.ntmps40
  go_wp2_with (go_at_call 67; refine (l1Most_any _ _ _).mono ?_; rintro e w' ⟨rfl, rfl⟩)
  go_ret
  exact ⟨ret_int (by omega), rfl⟩
def inB (n lo hi : Int) : Bool := decide (lo ≤ n ∧ n ≤ hi)
theorem l1In_any (n lo hi : Int) (w : World) :
    Calls Tryd.prog 72 #[.int .i64 n, .int .i64 lo, .int .i64 hi] w fun e w' => e = .returned (.bool (inB n lo hi)) ∧ w = w' := by
  go_enter Tryd.func72, Tryd.ntmps72
  go_wp2
  all_goals
    go_ret
    refine ⟨ret_bool ?_, rfl⟩
    (try unfold inB)
    (first | (symm; apply decide_eq_true; omega) | (symm; apply decide_eq_false; omega) | (rw [decide_eq_decide]; omega))
/-- A number in the sense of the program. -/
def numB (n : Int) : Bool := decide (-1000000 ≤ n ∧ n ≤ 1000000)
theorem numB_bd {n : Int} (h : numB n = true) : Bd 1000000 n := by
  unfold numB at h
  have h := of_decide_eq_true h
  exact ⟨h.1, h.2⟩
theorem all_take_succ (l : List Int) (k : Nat) (h : k < l.length) : (l.take (k + 1)).all numB = ((l.take k).all numB && numB (l.getD k 0)) := by
  rw [List.take_succ_eq_append_getElem h, List.all_append]
  simp [List.getD_eq_getElem?_getD, h]
theorem all_false (l : List Int) (k : Nat) (h : k < l.length) (hn : numB (l.getD k 0) = false) : l.all numB = false := by
  rw [List.all_eq_false]
  refine ⟨l[k], List.getElem_mem h, ?_⟩
  have e : l.getD k 0 = l[k] := by simp [List.getD_eq_getElem?_getD, h]
  rw [e] at hn
  simp [hn]
set_option maxHeartbeats 400000 in
theorem areNumbers_any (l : List Int) (g : Nat) (w : World) (hl : l.length ≤ 1000) (hc : ∀ i, i < l.length → w.cell? ⟨g, i, none⟩ = some (.int .i64 (l.getD i 0))) :
    Calls Tryd.prog 49 #[.slice (some ⟨g, 0, none⟩) l.length l.length] w fun e w' => e = .returned (.bool (l.all numB)) ∧ w = w' := by
  have HC := Lib.hid hc
  clear hc
  go_enter Tryd.func49, Tryd.ntmps49
  go_wp2
  go_loop [7] (fun i => ∃ k : Nat, k ≤ l.length ∧ i = .int .i64 k ∧ Hid ((l.take k).all numB = true)) (fun i => l.length - (intOf i).toNat)
  case atStart => exact ⟨0, Nat.zero_le _, rfl, by show _ = _; simp⟩
  case round =>
    obtain ⟨k, hk, rfl, hall⟩ := hrel
    by_cases hlt : k < l.length
    · have hcell := HC.out k hlt
      have HT := Lib.hid (all_take_succ l k hlt)
      have HN := Lib.hid (all_false l k hlt)
      generalize l.getD k 0 = z at *
      go_wp2
      all_goals first
        | (go_round
           case rel =>
             go_light
             refine ⟨k + 1, by omega, by go_num, ?_⟩
             show _ = _
             rw [HT.out, hall.out, Bool.true_and]
             unfold numB
             exact decide_eq_true ⟨by omega, by omega⟩
           case measure => simp [intOf]; omega)
        | (go_ret
           refine ⟨ret_bool ?_, rfl⟩
           go_light
           rw [HN.out (by unfold numB; exact decide_eq_false (by omega))])
    · go_wp2
      go_ret
      refine ⟨ret_bool ?_, rfl⟩
      have := hall.out
      rw [List.take_of_length_le (by omega)] at this
      exact this.symm
end Go.Proofs.YtlfbanoabipacaaDoor
