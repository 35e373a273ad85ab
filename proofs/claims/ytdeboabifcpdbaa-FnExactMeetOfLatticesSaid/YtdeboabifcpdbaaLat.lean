/-
  Contracts of the lattice functions.
-/
import Derived.Test.YtdeboabifcpdbaaNum

namespace Go.Proofs.Ytdeboabifcpdbaa
open Go.RowKit
attribute [local simp, local go_sem] past_cell past_frozen past_tape
theorem toLattice_any (a b d : Int) (w : World) :
    Calls Try.prog 16 #[.agg #[.int .i64 a, .int .i64 b, .int .i64 d]] w fun e w' => e = .returned (.agg #[.int .i64 a, .int .i64 b, .int .i64 d]) ∧ Below w.heap.size w w' := by
  go_enter Try.func16, Try.ntmps16
  go_wp2
  refine bodyPost_ret (v := .agg #[.int .i64 a, .int .i64 b, .int .i64 d]) (by simp [results, Try.results16, go_sem]) rfl ⟨rfl, ?_⟩
  repeat (first | exact Below.refl _ _ | exact (Below.refl _ _).mono (by simp; omega) | (refine Below.alloc ?_ (by simp; try omega) _))
def latB (a b d : Int) : Bool := decide (1 ≤ a ∧ a ≤ 1000 ∧ 1 ≤ d ∧ d ≤ 1000 ∧ 0 ≤ b ∧ b < a)
theorem latB_true {a b d : Int} (h : latB a b d = true) : 1 ≤ a ∧ a ≤ 1000 ∧ 1 ≤ d ∧ d ≤ 1000 ∧ 0 ≤ b ∧ b < a := of_decide_eq_true h
theorem isLattice_any (a b d : Int) (w : World) :
    Calls Try.prog 55 #[.agg #[.int .i64 a, .int .i64 b, .int .i64 d]] w fun e w' => e = .returned (.bool (latB a b d)) ∧ Below w.heap.size w w' := by
  go_enter Try.func55, Try.ntmps55
  go_wp2
  all_goals
    go_ret
    refine ⟨ret_bool ?_, (Below.refl _ _).alloc (Nat.le_refl _) _⟩
    (try unfold latB)
    (first | (symm; apply decide_eq_true; omega) | (symm; apply decide_eq_false; omega) | (rw [decide_eq_decide]; omega))
theorem laGood_any (a b d : Int) (w : World) (ha : I64 a) :
    Calls Try.prog 54 #[.agg #[.int .i64 a, .int .i64 b, .int .i64 d]] w fun e w' => e = .returned (.bool (latB a b d)) ∧ Below w.heap.size w w' := by
  have hw1 : 1 ≤ a → wrap64 (a - 1) = a - 1 := fun _ => by have := ha.2; unfold wrap64; omega
  have HW := Lib.hid hw1
  clear hw1
  go_enter Try.func54, Try.ntmps54
  go_wp2_with (go_at_call 70; refine (l1In_any _ _ _ _).mono ?_; rintro e w' ⟨rfl, rfl⟩)
  all_goals
    go_ret
    refine ⟨ret_bool ?_, (Below.refl _ _).alloc (Nat.le_refl _) _⟩
    go_light
    have HW := HW.out
    simp_all [inB, latB]
    all_goals (first | omega | (intros; omega) | (rw [Bool.eq_iff_iff]; simp; omega))
theorem specIsLattice_any (a b d : Int) (w : World) (ha : I64 a) :
    Calls Try.prog 15 #[.agg #[.int .i64 a, .int .i64 b, .int .i64 d]] w fun e w' => e = .returned (.bool (latB a b d)) ∧ Below w.heap.size w w' := by
  go_enter Try.func15, Try.ntmps15
  go_wp2_with (go_at_call 54; refine (laGood_any _ _ _ _ ha).mono ?_; rintro e w' ⟨rfl, hB⟩; obtain ⟨hC, hF⟩ := bcell hB; have hS := hB.size; (try simp at hS); (try have hSl := Nat.lt_of_succ_le hS); (try have hS0 : w.heap.size < w'.heap.size := by omega); (try have hS1 : w.heap.size + 1 < w'.heap.size := by omega); (try have hS2 : w.heap.size + 1 + 1 < w'.heap.size := by omega); (try have hS3 : w.heap.size + 1 + 1 + 1 < w'.heap.size := by omega))
  go_ret
  refine ⟨rfl, ?_⟩
  repeat (first | with_reducible exact Below.refl _ _ | with_reducible assumption | ((with_reducible refine blA ?_ ?_); (focus (first | omega | (simp <;> omega)))) | (with_reducible refine blD ?_) | (with_reducible refine blN ?_) | ((with_reducible refine blS ?_ ?_); (focus (first | omega | (simp <;> omega)))) | ((with_reducible refine blT (by assumption) ?_ ?_); (focus (first | omega | (simp <;> omega)))))
theorem implIsLattice_any (a b d : Int) (w : World) :
    Calls Try.prog 17 #[.agg #[.int .i64 a, .int .i64 b, .int .i64 d]] w fun e w' => e = .returned (.bool (latB a b d)) ∧ Below w.heap.size w w' := by
  go_enter Try.func17, Try.ntmps17
  go_wp2_with (go_at_call 55; refine (isLattice_any _ _ _ _).mono ?_; rintro e w' ⟨rfl, hB⟩; obtain ⟨hC, hF⟩ := bcell hB; have hS := hB.size; (try simp at hS); (try have hSl := Nat.lt_of_succ_le hS); (try have hS0 : w.heap.size < w'.heap.size := by omega); (try have hS1 : w.heap.size + 1 < w'.heap.size := by omega); (try have hS2 : w.heap.size + 1 + 1 < w'.heap.size := by omega); (try have hS3 : w.heap.size + 1 + 1 + 1 < w'.heap.size := by omega))
  go_ret
  refine ⟨rfl, ?_⟩
  repeat (first | with_reducible exact Below.refl _ _ | with_reducible assumption | ((with_reducible refine blA ?_ ?_); (focus (first | omega | (simp <;> omega)))) | (with_reducible refine blD ?_) | (with_reducible refine blN ?_) | ((with_reducible refine blS ?_ ?_); (focus (first | omega | (simp <;> omega)))) | ((with_reducible refine blT (by assumption) ?_ ?_); (focus (first | omega | (simp <;> omega)))))
/-- A point is in a lattice. -/
def latHas (a b d x y : Int) : Bool := decide (y.tmod d = 0) && decide ((x - y.tdiv d * b).tmod a = 0)
set_option maxHeartbeats 400000 in
theorem has_any (a b d x y : Int) (w : World) (h : latB a b d = true) (hx : Bd 1000000 x) (hy : Bd 1000000 y) :
    Calls Try.prog 57 #[.agg #[.int .i64 a, .int .i64 b, .int .i64 d], .int .i64 x, .int .i64 y] w fun e w' => e = .returned (.bool (latHas a b d x y)) ∧ Below w.heap.size w w' := by
  obtain ⟨h1, h2, h3, h4, h5, h6⟩ := latB_true h
  obtain ⟨x1, x2⟩ := hx
  obtain ⟨y1, y2⟩ := hy
  clear h
  have hd := tdiv_bd d (show Bd 1000000 y from ⟨y1, y2⟩)
  have hm := mul_bd hd (show Bd 1000 b from ⟨by omega, by omega⟩) (show (1000000 : Int) * 1000 ≤ 1000000000 by decide)
  obtain ⟨d1, d2⟩ := hd
  obtain ⟨m1, m2⟩ := hm
  by_cases hz : y.tmod d = 0
  · have hz' : (y.tmod d == 0) = true := by simp [hz]
    have HZ := Lib.hid hz
    clear hz
    go_enter Try.func57, Try.ntmps57
    go_wp2_with fail
    go_quiet (fail)
    go_wp2
    go_ret
    refine ⟨ret_bool ?_, ?_⟩
    · unfold latHas; rw [decide_eq_true HZ.out]; rfl
    · repeat (first | with_reducible exact Below.refl _ _ | with_reducible assumption | ((with_reducible refine blA ?_ ?_); (focus (first | omega | (simp <;> omega)))) | (with_reducible refine blD ?_) | (with_reducible refine blN ?_) | ((with_reducible refine blS ?_ ?_); (focus (first | omega | (simp <;> omega)))) | ((with_reducible refine blT (by assumption) ?_ ?_); (focus (first | omega | (simp <;> omega)))))
  · have hz' : (y.tmod d == 0) = false := by simp [hz]
    have HZ := Lib.hid hz
    clear hz
    go_enter Try.func57, Try.ntmps57
    go_wp2_with fail
    go_quiet (fail)
    go_wp2
    go_ret
    refine ⟨ret_bool ?_, ?_⟩
    · unfold latHas; rw [decide_eq_false HZ.out]; rfl
    · repeat (first | with_reducible exact Below.refl _ _ | with_reducible assumption | ((with_reducible refine blA ?_ ?_); (focus (first | omega | (simp <;> omega)))) | (with_reducible refine blD ?_) | (with_reducible refine blN ?_) | ((with_reducible refine blS ?_ ?_); (focus (first | omega | (simp <;> omega)))) | ((with_reducible refine blT (by assumption) ?_ ?_); (focus (first | omega | (simp <;> omega)))))
set_option maxHeartbeats 400000 in
theorem laHas_any (a b d x y : Int) (w : World) (h : latB a b d = true) (hx : Bd 1000000 x) (hy : Bd 1000000 y) :
    Calls Try.prog 56 #[.agg #[.int .i64 a, .int .i64 b, .int .i64 d], .agg #[.int .i64 x, .int .i64 y]] w fun e w' => e = .returned (.bool (latHas a b d x y)) ∧ Below w.heap.size w w' := by
  obtain ⟨h1, h2, h3, h4, h5, h6⟩ := latB_true h
  obtain ⟨x1, x2⟩ := hx
  obtain ⟨y1, y2⟩ := hy
  clear h
  have hd := tdiv_bd d (show Bd 1000000 y from ⟨y1, y2⟩)
  have hm := mul_bd hd (show Bd 1000 b from ⟨by omega, by omega⟩) (show (1000000 : Int) * 1000 ≤ 1000000000 by decide)
  obtain ⟨d1, d2⟩ := hd
  obtain ⟨m1, m2⟩ := hm
  by_cases hz : y.tmod d = 0
  all_goals
    first | have hz' : (y.tmod d == 0) = true := by simp [hz] | have hz' : (y.tmod d == 0) = false := by simp [hz]
    have HZ := Lib.hid hz
    clear hz
    go_enter Try.func56, Try.ntmps56
    go_wp2_with fail
    go_quiet (fail)
    go_wp2
    go_ret
    refine ⟨ret_bool ?_, ?_⟩
    · unfold latHas; (first | rw [decide_eq_true HZ.out] | rw [decide_eq_false HZ.out]); rfl
    · repeat (first | with_reducible exact Below.refl _ _ | with_reducible assumption | ((with_reducible refine blA ?_ ?_); (focus (first | omega | (simp <;> omega)))) | (with_reducible refine blD ?_) | (with_reducible refine blN ?_) | ((with_reducible refine blS ?_ ?_); (focus (first | omega | (simp <;> omega)))) | ((with_reducible refine blT (by assumption) ?_ ?_); (focus (first | omega | (simp <;> omega)))))
theorem latB_bd {a b d : Int} (h : latB a b d = true) : Bd 1000000 a ∧ Bd 1000000 b ∧ Bd 1000000 d := by
  obtain ⟨h1, h2, h3, h4, h5, h6⟩ := latB_true h
  exact ⟨⟨by omega, by omega⟩, ⟨by omega, by omega⟩, ⟨by omega, by omega⟩⟩
/-- What IsSublattice answers. -/
def subLat (a b d a' b' d' : Int) : Bool := if latB a b d && latB a' b' d' then latHas a' b' d' a 0 && latHas a' b' d' b d else false
theorem bd0 : Bd 1000000 0 := ⟨by omega, by omega⟩
set_option maxHeartbeats 400000 in
theorem implIsSublattice_any (a b d a' b' d' : Int) (w : World) :
    Calls Try.prog 21 #[.agg #[.int .i64 a, .int .i64 b, .int .i64 d], .agg #[.int .i64 a', .int .i64 b', .int .i64 d']] w fun e w' => e = .returned (.tuple #[.bool (subLat a b d a' b' d'), .bool (latB a b d && latB a' b' d')]) ∧ Below w.heap.size w w' := by
  have b0 := bd0
  by_cases c1 : latB a b d = true
  · by_cases c2 : latB a' b' d' = true
    · have hs : Hid (subLat a b d a' b' d' = (latHas a' b' d' a 0 && latHas a' b' d' b d)) := by show _ = _; simp [subLat, c1, c2]
      obtain ⟨b1, b2, b3⟩ := latB_bd c1
      go_enter Try.func21, Try.ntmps21
      go_wp2_with (first | (go_at_call 55; refine (isLattice_any _ _ _ _).mono ?_; rintro e w' ⟨rfl, hB⟩; obtain ⟨hC, hF⟩ := bcell hB; have hS := hB.size; (try simp at hS); (try have hSl := Nat.lt_of_succ_le hS); (try have hS0 : w.heap.size < w'.heap.size := by omega); (try have hS1 : w.heap.size + 1 < w'.heap.size := by omega); (try have hS2 : w.heap.size + 1 + 1 < w'.heap.size := by omega); (try have hS3 : w.heap.size + 1 + 1 + 1 < w'.heap.size := by omega)) | (go_at_call 57; refine (has_any _ _ _ _ _ _ (by assumption) (by assumption) (by assumption)).mono ?_; rintro e w' ⟨rfl, hB⟩; obtain ⟨hC, hF⟩ := bcell hB; have hS := hB.size; (try simp at hS); (try have hSl := Nat.lt_of_succ_le hS); (try have hS0 : w.heap.size < w'.heap.size := by omega); (try have hS1 : w.heap.size + 1 < w'.heap.size := by omega); (try have hS2 : w.heap.size + 1 + 1 < w'.heap.size := by omega); (try have hS3 : w.heap.size + 1 + 1 + 1 < w'.heap.size := by omega)))
      all_goals
        go_ret2
        refine ⟨ret_bb ?_ ?_, ?_⟩
        · go_light; rw [hs.out]; simp [*]
        · go_light; simp [*]
        · repeat (first | with_reducible exact Below.refl _ _ | with_reducible assumption | ((with_reducible refine blA ?_ ?_); (focus (first | omega | (simp <;> omega)))) | (with_reducible refine blD ?_) | (with_reducible refine blN ?_) | ((with_reducible refine blS ?_ ?_); (focus (first | omega | (simp <;> omega)))) | ((with_reducible refine blT (by assumption) ?_ ?_); (focus (first | omega | (simp <;> omega)))))
    · have hs : subLat a b d a' b' d' = false := by simp [subLat, c2]
      have c2' : latB a' b' d' = false := by simpa using c2
      clear c2
      go_enter Try.func21, Try.ntmps21
      go_wp2_with (go_at_call 55; refine (isLattice_any _ _ _ _).mono ?_; rintro e w' ⟨rfl, hB⟩; obtain ⟨hC, hF⟩ := bcell hB; have hS := hB.size; (try simp at hS); (try have hSl := Nat.lt_of_succ_le hS); (try have hS0 : w.heap.size < w'.heap.size := by omega); (try have hS1 : w.heap.size + 1 < w'.heap.size := by omega); (try have hS2 : w.heap.size + 1 + 1 < w'.heap.size := by omega); (try have hS3 : w.heap.size + 1 + 1 + 1 < w'.heap.size := by omega))
      go_ret2
      refine ⟨ret_bb ?_ ?_, ?_⟩
      · go_light; simp [*]
      · go_light; simp [*]
      · repeat (first | with_reducible exact Below.refl _ _ | with_reducible assumption | ((with_reducible refine blA ?_ ?_); (focus (first | omega | (simp <;> omega)))) | (with_reducible refine blD ?_) | (with_reducible refine blN ?_) | ((with_reducible refine blS ?_ ?_); (focus (first | omega | (simp <;> omega)))) | ((with_reducible refine blT (by assumption) ?_ ?_); (focus (first | omega | (simp <;> omega)))))
  · have hs : subLat a b d a' b' d' = false := by simp [subLat, c1]
    have c1' : latB a b d = false := by simpa using c1
    clear c1
    go_enter Try.func21, Try.ntmps21
    go_wp2_with (go_at_call 55; refine (isLattice_any _ _ _ _).mono ?_; rintro e w' ⟨rfl, hB⟩; obtain ⟨hC, hF⟩ := bcell hB; have hS := hB.size; (try simp at hS); (try have hSl := Nat.lt_of_succ_le hS); (try have hS0 : w.heap.size < w'.heap.size := by omega); (try have hS1 : w.heap.size + 1 < w'.heap.size := by omega); (try have hS2 : w.heap.size + 1 + 1 < w'.heap.size := by omega); (try have hS3 : w.heap.size + 1 + 1 + 1 < w'.heap.size := by omega))
    go_ret2
    refine ⟨ret_bb ?_ ?_, ?_⟩
    · go_light; simp [*]
    · go_light; simp [*]
    · repeat (first | with_reducible exact Below.refl _ _ | with_reducible assumption | ((with_reducible refine blA ?_ ?_); (focus (first | omega | (simp <;> omega)))) | (with_reducible refine blD ?_) | (with_reducible refine blN ?_) | ((with_reducible refine blS ?_ ?_); (focus (first | omega | (simp <;> omega)))) | ((with_reducible refine blT (by assumption) ?_ ?_); (focus (first | omega | (simp <;> omega)))))
set_option maxHeartbeats 400000 in
theorem specIsSublattice_any (a b d a' b' d' : Int) (w : World) (ha : I64 a) (ha' : I64 a') :
    Calls Try.prog 20 #[.agg #[.int .i64 a, .int .i64 b, .int .i64 d], .agg #[.int .i64 a', .int .i64 b', .int .i64 d']] w fun e w' => e = .returned (.tuple #[.bool (subLat a b d a' b' d'), .bool (latB a b d && latB a' b' d')]) ∧ Below w.heap.size w w' := by
  have b0 := bd0
  by_cases c1 : latB a b d = true
  · by_cases c2 : latB a' b' d' = true
    · have hs : Hid (subLat a b d a' b' d' = (latHas a' b' d' a 0 && latHas a' b' d' b d)) := by show _ = _; simp [subLat, c1, c2]
      obtain ⟨b1, b2, b3⟩ := latB_bd c1
      go_enter Try.func20, Try.ntmps20
      go_wp2_with (first | (go_at_call 54; refine (laGood_any _ _ _ _ (by assumption)).mono ?_; rintro e w' ⟨rfl, hB⟩; obtain ⟨hC, hF⟩ := bcell hB; have hS := hB.size; (try simp at hS); (try have hSl := Nat.lt_of_succ_le hS); (try have hS0 : w.heap.size < w'.heap.size := by omega); (try have hS1 : w.heap.size + 1 < w'.heap.size := by omega); (try have hS2 : w.heap.size + 1 + 1 < w'.heap.size := by omega); (try have hS3 : w.heap.size + 1 + 1 + 1 < w'.heap.size := by omega)) | (go_at_call 56; refine (laHas_any _ _ _ _ _ _ (by assumption) (by assumption) (by assumption)).mono ?_; rintro e w' ⟨rfl, hB⟩; obtain ⟨hC, hF⟩ := bcell hB; have hS := hB.size; (try simp at hS); (try have hSl := Nat.lt_of_succ_le hS); (try have hS0 : w.heap.size < w'.heap.size := by omega); (try have hS1 : w.heap.size + 1 < w'.heap.size := by omega); (try have hS2 : w.heap.size + 1 + 1 < w'.heap.size := by omega); (try have hS3 : w.heap.size + 1 + 1 + 1 < w'.heap.size := by omega)))
      all_goals
        go_ret2
        refine ⟨ret_bb ?_ ?_, ?_⟩
        · go_light; rw [hs.out]; simp [*]
        · go_light; simp [*]
        · repeat (first | with_reducible exact Below.refl _ _ | with_reducible assumption | ((with_reducible refine blA ?_ ?_); (focus (first | omega | (simp <;> omega)))) | (with_reducible refine blD ?_) | (with_reducible refine blN ?_) | ((with_reducible refine blS ?_ ?_); (focus (first | omega | (simp <;> omega)))) | ((with_reducible refine blT (by assumption) ?_ ?_); (focus (first | omega | (simp <;> omega)))))
    · have hs : subLat a b d a' b' d' = false := by simp [subLat, c2]
      have c2' : latB a' b' d' = false := by simpa using c2
      clear c2
      go_enter Try.func20, Try.ntmps20
      go_wp2_with (go_at_call 54; refine (laGood_any _ _ _ _ (by assumption)).mono ?_; rintro e w' ⟨rfl, hB⟩; obtain ⟨hC, hF⟩ := bcell hB; have hS := hB.size; (try simp at hS); (try have hSl := Nat.lt_of_succ_le hS); (try have hS0 : w.heap.size < w'.heap.size := by omega); (try have hS1 : w.heap.size + 1 < w'.heap.size := by omega); (try have hS2 : w.heap.size + 1 + 1 < w'.heap.size := by omega); (try have hS3 : w.heap.size + 1 + 1 + 1 < w'.heap.size := by omega))
      go_ret2
      refine ⟨ret_bb ?_ ?_, ?_⟩
      · go_light; simp [*]
      · go_light; simp [*]
      · repeat (first | with_reducible exact Below.refl _ _ | with_reducible assumption | ((with_reducible refine blA ?_ ?_); (focus (first | omega | (simp <;> omega)))) | (with_reducible refine blD ?_) | (with_reducible refine blN ?_) | ((with_reducible refine blS ?_ ?_); (focus (first | omega | (simp <;> omega)))) | ((with_reducible refine blT (by assumption) ?_ ?_); (focus (first | omega | (simp <;> omega)))))
  · have hs : subLat a b d a' b' d' = false := by simp [subLat, c1]
    have c1' : latB a b d = false := by simpa using c1
    clear c1
    go_enter Try.func20, Try.ntmps20
    go_wp2_with (go_at_call 54; refine (laGood_any _ _ _ _ (by assumption)).mono ?_; rintro e w' ⟨rfl, hB⟩; obtain ⟨hC, hF⟩ := bcell hB; have hS := hB.size; (try simp at hS); (try have hSl := Nat.lt_of_succ_le hS); (try have hS0 : w.heap.size < w'.heap.size := by omega); (try have hS1 : w.heap.size + 1 < w'.heap.size := by omega); (try have hS2 : w.heap.size + 1 + 1 < w'.heap.size := by omega); (try have hS3 : w.heap.size + 1 + 1 + 1 < w'.heap.size := by omega))
    go_ret2
    refine ⟨ret_bb ?_ ?_, ?_⟩
    · go_light; simp [*]
    · go_light; simp [*]
    · repeat (first | with_reducible exact Below.refl _ _ | with_reducible assumption | ((with_reducible refine blA ?_ ?_); (focus (first | omega | (simp <;> omega)))) | (with_reducible refine blD ?_) | (with_reducible refine blN ?_) | ((with_reducible refine blS ?_ ?_); (focus (first | omega | (simp <;> omega)))) | ((with_reducible refine blT (by assumption) ?_ ?_); (focus (first | omega | (simp <;> omega)))))
/-- A lattice's index. -/
def idxLat (a b d : Int) : Int := if latB a b d then a * d else 0
theorem latMul {a b d : Int} (h : latB a b d = true) : Bd 1000000 (a * d) := by
  obtain ⟨h1, h2, h3, h4, h5, h6⟩ := latB_true h
  exact mul_bd (show Bd 1000 a from ⟨by omega, by omega⟩) (show Bd 1000 d from ⟨by omega, by omega⟩) (by decide)
theorem implLatticeIndex_any (a b d : Int) (w : World) :
    Calls Try.prog 19 #[.agg #[.int .i64 a, .int .i64 b, .int .i64 d]] w fun e w' => e = .returned (.tuple #[.int .i64 (idxLat a b d), .bool (latB a b d)]) ∧ Below w.heap.size w w' := by
  by_cases c1 : latB a b d = true
  · have hs : Hid (idxLat a b d = a * d) := by show _ = _; simp [idxLat, c1]
    obtain ⟨m1, m2⟩ := latMul c1
    go_enter Try.func19, Try.ntmps19
    go_wp2_with (go_at_call 55; refine (isLattice_any _ _ _ _).mono ?_; rintro e w' ⟨rfl, hB⟩; obtain ⟨hC, hF⟩ := bcell hB; have hS := hB.size; (try simp at hS); (try have hSl := Nat.lt_of_succ_le hS); (try have hS0 : w.heap.size < w'.heap.size := by omega); (try have hS1 : w.heap.size + 1 < w'.heap.size := by omega); (try have hS2 : w.heap.size + 1 + 1 < w'.heap.size := by omega); (try have hS3 : w.heap.size + 1 + 1 + 1 < w'.heap.size := by omega))
    go_ret2
    refine ⟨ret_ib (by go_light; rw [hs.out]) (by go_light; simp [*]), ?_⟩
    repeat (first | with_reducible exact Below.refl _ _ | with_reducible assumption | ((with_reducible refine blA ?_ ?_); (focus (first | omega | (simp <;> omega)))) | (with_reducible refine blD ?_) | (with_reducible refine blN ?_) | ((with_reducible refine blS ?_ ?_); (focus (first | omega | (simp <;> omega)))) | ((with_reducible refine blT (by assumption) ?_ ?_); (focus (first | omega | (simp <;> omega)))))
  · have hs : Hid (idxLat a b d = 0) := by show _ = _; simp [idxLat, c1]
    have c1' : latB a b d = false := by simpa using c1
    clear c1
    go_enter Try.func19, Try.ntmps19
    go_wp2_with (go_at_call 55; refine (isLattice_any _ _ _ _).mono ?_; rintro e w' ⟨rfl, hB⟩; obtain ⟨hC, hF⟩ := bcell hB; have hS := hB.size; (try simp at hS); (try have hSl := Nat.lt_of_succ_le hS); (try have hS0 : w.heap.size < w'.heap.size := by omega); (try have hS1 : w.heap.size + 1 < w'.heap.size := by omega); (try have hS2 : w.heap.size + 1 + 1 < w'.heap.size := by omega); (try have hS3 : w.heap.size + 1 + 1 + 1 < w'.heap.size := by omega))
    go_ret2
    refine ⟨ret_ib (by go_light; rw [hs.out]) (by go_light; simp [*]), ?_⟩
    repeat (first | with_reducible exact Below.refl _ _ | with_reducible assumption | ((with_reducible refine blA ?_ ?_); (focus (first | omega | (simp <;> omega)))) | (with_reducible refine blD ?_) | (with_reducible refine blN ?_) | ((with_reducible refine blS ?_ ?_); (focus (first | omega | (simp <;> omega)))) | ((with_reducible refine blT (by assumption) ?_ ?_); (focus (first | omega | (simp <;> omega)))))
theorem specLatticeIndex_any (a b d : Int) (w : World) (ha : I64 a) :
    Calls Try.prog 18 #[.agg #[.int .i64 a, .int .i64 b, .int .i64 d]] w fun e w' => e = .returned (.tuple #[.int .i64 (idxLat a b d), .bool (latB a b d)]) ∧ Below w.heap.size w w' := by
  by_cases c1 : latB a b d = true
  · have hs : Hid (idxLat a b d = a * d) := by show _ = _; simp [idxLat, c1]
    obtain ⟨m1, m2⟩ := latMul c1
    go_enter Try.func18, Try.ntmps18
    go_wp2_with (go_at_call 54; refine (laGood_any _ _ _ _ ha).mono ?_; rintro e w' ⟨rfl, hB⟩; obtain ⟨hC, hF⟩ := bcell hB; have hS := hB.size; (try simp at hS); (try have hSl := Nat.lt_of_succ_le hS); (try have hS0 : w.heap.size < w'.heap.size := by omega); (try have hS1 : w.heap.size + 1 < w'.heap.size := by omega); (try have hS2 : w.heap.size + 1 + 1 < w'.heap.size := by omega); (try have hS3 : w.heap.size + 1 + 1 + 1 < w'.heap.size := by omega))
    go_ret2
    refine ⟨ret_ib (by go_light; rw [hs.out]) (by go_light; simp [*]), ?_⟩
    repeat (first | with_reducible exact Below.refl _ _ | with_reducible assumption | ((with_reducible refine blA ?_ ?_); (focus (first | omega | (simp <;> omega)))) | (with_reducible refine blD ?_) | (with_reducible refine blN ?_) | ((with_reducible refine blS ?_ ?_); (focus (first | omega | (simp <;> omega)))) | ((with_reducible refine blT (by assumption) ?_ ?_); (focus (first | omega | (simp <;> omega)))))
  · have hs : Hid (idxLat a b d = 0) := by show _ = _; simp [idxLat, c1]
    have c1' : latB a b d = false := by simpa using c1
    clear c1
    go_enter Try.func18, Try.ntmps18
    go_wp2_with (go_at_call 54; refine (laGood_any _ _ _ _ ha).mono ?_; rintro e w' ⟨rfl, hB⟩; obtain ⟨hC, hF⟩ := bcell hB; have hS := hB.size; (try simp at hS); (try have hSl := Nat.lt_of_succ_le hS); (try have hS0 : w.heap.size < w'.heap.size := by omega); (try have hS1 : w.heap.size + 1 < w'.heap.size := by omega); (try have hS2 : w.heap.size + 1 + 1 < w'.heap.size := by omega); (try have hS3 : w.heap.size + 1 + 1 + 1 < w'.heap.size := by omega))
    go_ret2
    refine ⟨ret_ib (by go_light; rw [hs.out]) (by go_light; simp [*]), ?_⟩
    repeat (first | with_reducible exact Below.refl _ _ | with_reducible assumption | ((with_reducible refine blA ?_ ?_); (focus (first | omega | (simp <;> omega)))) | (with_reducible refine blD ?_) | (with_reducible refine blN ?_) | ((with_reducible refine blS ?_ ?_); (focus (first | omega | (simp <;> omega)))) | ((with_reducible refine blT (by assumption) ?_ ?_); (focus (first | omega | (simp <;> omega)))))
theorem toPoint_any (x y : Int) (w : World) :
    Calls Try.prog 23 #[.agg #[.int .i64 x, .int .i64 y]] w fun e w' => e = .returned (.agg #[.int .i64 x, .int .i64 y]) ∧ Below w.heap.size w w' := by
  go_enter Try.func23, Try.ntmps23
  go_wp2
  refine bodyPost_ret (v := .agg #[.int .i64 x, .int .i64 y]) (by simp [results, Try.results23, go_sem]) rfl ⟨rfl, ?_⟩
  repeat (first | with_reducible exact Below.refl _ _ | with_reducible assumption | ((with_reducible refine blA ?_ ?_); (focus (first | omega | (simp <;> omega)))) | (with_reducible refine blD ?_) | (with_reducible refine blN ?_) | ((with_reducible refine blS ?_ ?_); (focus (first | omega | (simp <;> omega)))) | ((with_reducible refine blT (by assumption) ?_ ?_); (focus (first | omega | (simp <;> omega)))))
/-- A plain point. -/
def plainB (x y : Int) : Bool := decide (-10000 ≤ x ∧ x ≤ 10000 ∧ -10000 ≤ y ∧ y ≤ 10000)
theorem plainB_bd {x y : Int} (h : plainB x y = true) : Bd 1000000 x ∧ Bd 1000000 y := by
  have h := of_decide_eq_true h
  exact ⟨⟨by omega, by omega⟩, ⟨by omega, by omega⟩⟩
theorem absI_le {n k : Int} (h : I64 n) (hk : 0 ≤ k) (hk' : k < 9223372036854775807) : absI n ≤ k ↔ (-k ≤ n ∧ n ≤ k) := by
  unfold absI; obtain ⟨h1, h2⟩ := h
  split
  · omega
  · split <;> omega
theorem isPlain_any (x y : Int) (w : World) (hx : I64 x) (hy : I64 y) :
    Calls Try.prog 59 #[.agg #[.int .i64 x, .int .i64 y]] w fun e w' => e = .returned (.bool (plainB x y)) ∧ Below w.heap.size w w' := by
  have e1 := Lib.hid (absI_le (k := 10000) hx (by omega) (by omega))
  have e2 := Lib.hid (absI_le (k := 10000) hy (by omega) (by omega))
  go_enter Try.func59, Try.ntmps59
  go_wp2_with (go_at_call 84; refine (abs_any _ _ (by assumption)).mono ?_; rintro e w' ⟨rfl, rfl⟩)
  all_goals
    go_ret
    refine ⟨ret_bool ?_, ?_⟩
    · go_light
      have e1 := e1.out
      have e2 := e2.out
      rw [Bool.eq_iff_iff]
      simp only [plainB, decide_eq_true_eq, decide_eq_false_iff_not, Bool.false_eq_true, false_iff, true_iff] at *
      omega
    · repeat (first | with_reducible exact Below.refl _ _ | with_reducible assumption | ((with_reducible refine blA ?_ ?_); (focus (first | omega | (simp <;> omega)))) | (with_reducible refine blD ?_) | (with_reducible refine blN ?_) | ((with_reducible refine blS ?_ ?_); (focus (first | omega | (simp <;> omega)))) | ((with_reducible refine blT (by assumption) ?_ ?_); (focus (first | omega | (simp <;> omega)))))
theorem laPlain_any (x y : Int) (w : World) :
    Calls Try.prog 58 #[.agg #[.int .i64 x, .int .i64 y]] w fun e w' => e = .returned (.bool (plainB x y)) ∧ Below w.heap.size w w' := by
  go_enter Try.func58, Try.ntmps58
  go_wp2_with (go_at_call 70; refine (l1In_any _ _ _ _).mono ?_; rintro e w' ⟨rfl, rfl⟩)
  all_goals
    go_ret
    refine ⟨ret_bool ?_, ?_⟩
    · go_light
      rw [Bool.eq_iff_iff]
      simp only [plainB, inB, decide_eq_true_eq, decide_eq_false_iff_not, Bool.false_eq_true, false_iff, true_iff] at *
      omega
    · repeat (first | with_reducible exact Below.refl _ _ | with_reducible assumption | ((with_reducible refine blA ?_ ?_); (focus (first | omega | (simp <;> omega)))) | (with_reducible refine blD ?_) | (with_reducible refine blN ?_) | ((with_reducible refine blS ?_ ?_); (focus (first | omega | (simp <;> omega)))) | ((with_reducible refine blT (by assumption) ?_ ?_); (focus (first | omega | (simp <;> omega)))))
end Go.Proofs.Ytdeboabifcpdbaa
