/-
  A form on a lattice: FormOnLattice, and the walk of its law.
-/
import Derived.Test.YtdeboabifcpdbaaDef
import Derived.Test.YtdeboabifcpdbaaLat
namespace Go.Proofs.Ytdeboabifcpdbaa
open Go.RowKit
attribute [local simp, local go_sem] past_cell past_frozen past_tape
/-- The form's coefficients on the lattice. -/
def gA (p q r a : Int) : Int := valW p q r a 0
def gB (p q r a b d : Int) : Int := polW p q r a 0 b d
def gC (p q r b d : Int) : Int := valW p q r b d
def flB (p q r a b d : Int) : Bool := defB p q r && latB a b d && formB (gA p q r a) (gB p q r a b d) (gC p q r b d)
def flz (b : Bool) (x : Int) : Int := if b then x else 0
theorem implSub (p q r a b d : Int) (w : World) :
    Calls Try.prog 68 #[.agg #[.int .i64 p, .int .i64 q, .int .i64 r], .agg #[.int .i64 a, .int .i64 b, .int .i64 0, .int .i64 d]] w fun en w' => en = .returned (.agg #[.int .i64 (gA p q r a), .int .i64 (gB p q r a b d), .int .i64 (gC p q r b d)]) ∧ Below w.heap.size w w' := substitute_any p q r a b 0 d w
theorem specSub (p q r a b d : Int) (w : World) :
    Calls Try.prog 88 #[.agg #[.int .i64 p, .int .i64 q, .int .i64 r], .agg #[.int .i64 a, .int .i64 b, .int .i64 0, .int .i64 d]] w fun en w' => en = .returned (.agg #[.int .i64 (gA p q r a), .int .i64 (gB p q r a b d), .int .i64 (gC p q r b d)]) ∧ Below w.heap.size w w' := foAct_any p q r a b 0 d w
set_option maxRecDepth 100000 in
set_option maxHeartbeats 2000000 in
theorem implFormOnLattice_any (p q r a b d : Int) (w : World) :
    Calls Try.prog 32 #[.agg #[.int .i64 p, .int .i64 q, .int .i64 r], .agg #[.int .i64 a, .int .i64 b, .int .i64 d]] w fun en w' => en = .returned (.tuple #[.agg #[.int .i64 (flz (flB p q r a b d) (gA p q r a)), .int .i64 (flz (flB p q r a b d) (gB p q r a b d)), .int .i64 (flz (flB p q r a b d) (gC p q r b d))], .bool (flB p q r a b d)]) ∧ Below w.heap.size w w' := by
  go_enter Try.func32, Try.ntmps32
  go_wp2_with (first | (go_at_call 67; refine (isDefinite_any _ _ _ _).mono ?_; rintro e w' ⟨rfl, hB⟩; obtain ⟨hC, hF⟩ := bcell hB; have hS := hB.size; (try simp at hS); (try have hSl := Nat.lt_of_succ_le hS); (try have hS0 : w.heap.size < w'.heap.size := by omega); (try have hS1 : w.heap.size + 1 < w'.heap.size := by omega); (try have hS2 : w.heap.size + 1 + 1 < w'.heap.size := by omega); (try have hS3 : w.heap.size + 1 + 1 + 1 < w'.heap.size := by omega)) | (go_at_call 55; refine (isLattice_any _ _ _ _).mono ?_; rintro e w' ⟨rfl, hB⟩; obtain ⟨hC, hF⟩ := bcell hB; have hS := hB.size; (try simp at hS); (try have hSl := Nat.lt_of_succ_le hS); (try have hS0 : w.heap.size < w'.heap.size := by omega); (try have hS1 : w.heap.size + 1 < w'.heap.size := by omega); (try have hS2 : w.heap.size + 1 + 1 < w'.heap.size := by omega); (try have hS3 : w.heap.size + 1 + 1 + 1 < w'.heap.size := by omega)) | (go_at_call 68; refine (implSub _ _ _ _ _ _ _).mono ?_; rintro e w' ⟨rfl, hB⟩; obtain ⟨hC, hF⟩ := bcell hB; have hS := hB.size; (try simp at hS); (try have hSl := Nat.lt_of_succ_le hS); (try have hS0 : w.heap.size < w'.heap.size := by omega); (try have hS1 : w.heap.size + 1 < w'.heap.size := by omega); (try have hS2 : w.heap.size + 1 + 1 < w'.heap.size := by omega); (try have hS3 : w.heap.size + 1 + 1 + 1 < w'.heap.size := by omega)) | (go_at_call 69; refine (IsForm_any _ _ _ _).mono ?_; rintro e w' ⟨rfl, hB⟩; obtain ⟨hC, hF⟩ := bcell hB; have hS := hB.size; (try simp at hS); (try have hSl := Nat.lt_of_succ_le hS); (try have hS0 : w.heap.size < w'.heap.size := by omega); (try have hS1 : w.heap.size + 1 < w'.heap.size := by omega); (try have hS2 : w.heap.size + 1 + 1 < w'.heap.size := by omega); (try have hS3 : w.heap.size + 1 + 1 + 1 < w'.heap.size := by omega)))
  all_goals first
    | (refine bodyPost_ret (v := .tuple #[.agg #[.int .i64 0, .int .i64 0, .int .i64 0], .bool false]) ?_ rfl ⟨?_, ?_⟩; (focus (go_light; first | (simp [results, Try.results32, go_sem, *]; done) | (simp (disch := first | omega | (simp <;> omega) | (refine isSome_of ?_ ?_; (focus ((repeat (first | ((with_reducible refine (cell_alloc_old _ _ _ _ ?_).trans ?_); (focus (first | omega | (simp <;> omega)))) | ((with_reducible refine (bG (by assumption) ?_).trans ?_); (focus (first | omega | (simp <;> omega)))))); exact rfl)); simp [go_sem]) | fail) [results, Try.results32, go_sem, *]; done))); (focus (go_light; rw [show flB p q r a b d = false by simp_all [flB]]; rfl)); repeat (first | with_reducible exact Below.refl _ _ | with_reducible assumption | ((with_reducible refine blA ?_ ?_); (focus (first | omega | (simp <;> omega)))) | (with_reducible refine blD ?_) | (with_reducible refine blN ?_) | ((with_reducible refine blS ?_ ?_); (focus (first | omega | (simp <;> omega)))) | ((with_reducible refine blT (by assumption) ?_ ?_); (focus (first | omega | (simp <;> omega))))))
    | (refine bodyPost_ret (v := .tuple #[.agg #[.int .i64 (gA p q r a), .int .i64 (gB p q r a b d), .int .i64 (gC p q r b d)], .bool true]) ?_ rfl ⟨?_, ?_⟩; (focus (go_light; first | (simp [results, Try.results32, go_sem, *]; done) | (simp (disch := first | omega | (simp <;> omega) | (refine isSome_of ?_ ?_; (focus ((repeat (first | ((with_reducible refine (cell_alloc_old _ _ _ _ ?_).trans ?_); (focus (first | omega | (simp <;> omega)))) | ((with_reducible refine (bG (by assumption) ?_).trans ?_); (focus (first | omega | (simp <;> omega)))))); exact rfl)); simp [go_sem]) | fail) [results, Try.results32, go_sem, *]; done))); (focus (go_light; rw [show flB p q r a b d = true by simp_all [flB]]; rfl)); repeat (first | with_reducible exact Below.refl _ _ | with_reducible assumption | ((with_reducible refine blA ?_ ?_); (focus (first | omega | (simp <;> omega)))) | (with_reducible refine blD ?_) | (with_reducible refine blN ?_) | ((with_reducible refine blS ?_ ?_); (focus (first | omega | (simp <;> omega)))) | ((with_reducible refine blT (by assumption) ?_ ?_); (focus (first | omega | (simp <;> omega))))))
theorem laForm_any (p q r a b d : Int) (w : World) :
    Calls Try.prog 66 #[.agg #[.int .i64 p, .int .i64 q, .int .i64 r], .agg #[.int .i64 a, .int .i64 b, .int .i64 d]] w fun en w' => en = .returned (.agg #[.int .i64 (gA p q r a), .int .i64 (gB p q r a b d), .int .i64 (gC p q r b d)]) ∧ Below w.heap.size w w' := by
  go_enter Try.func66, Try.ntmps66
  go_wp2_with (go_at_call 88; refine (specSub _ _ _ _ _ _ _).mono ?_; rintro e w' ⟨rfl, hB⟩; obtain ⟨hC, hF⟩ := bcell hB; have hS := hB.size; (try simp at hS); (try have hSl := Nat.lt_of_succ_le hS); (try have hS0 : w.heap.size < w'.heap.size := by omega); (try have hS1 : w.heap.size + 1 < w'.heap.size := by omega); (try have hS2 : w.heap.size + 1 + 1 < w'.heap.size := by omega); (try have hS3 : w.heap.size + 1 + 1 + 1 < w'.heap.size := by omega))
  (refine bodyPost_ret (v := .agg #[.int .i64 (gA p q r a), .int .i64 (gB p q r a b d), .int .i64 (gC p q r b d)]) ?_ rfl ⟨?_, ?_⟩; (focus (go_light; first | (simp [results, Try.results66, go_sem, *]; done) | (simp (disch := first | omega | (simp <;> omega) | (refine isSome_of ?_ ?_; (focus ((repeat (first | ((with_reducible refine (cell_alloc_old _ _ _ _ ?_).trans ?_); (focus (first | omega | (simp <;> omega)))) | ((with_reducible refine (bG (by assumption) ?_).trans ?_); (focus (first | omega | (simp <;> omega)))))); exact rfl)); simp [go_sem]) | fail) [results, Try.results66, go_sem, *]; done))); (focus (rfl)); repeat (first | with_reducible exact Below.refl _ _ | with_reducible assumption | ((with_reducible refine blA ?_ ?_); (focus (first | omega | (simp <;> omega)))) | (with_reducible refine blD ?_) | (with_reducible refine blN ?_) | ((with_reducible refine blS ?_ ?_); (focus (first | omega | (simp <;> omega)))) | ((with_reducible refine blT (by assumption) ?_ ?_); (focus (first | omega | (simp <;> omega))))))
theorem laAsked_any (p q r a b d : Int) (w : World) (ha : I64 a) :
    Calls Try.prog 65 #[.agg #[.int .i64 p, .int .i64 q, .int .i64 r], .agg #[.int .i64 a, .int .i64 b, .int .i64 d]] w fun en w' => en = .returned (.bool (flB p q r a b d)) ∧ Below w.heap.size w w' := by
  go_enter Try.func65, Try.ntmps65
  go_wp2_with (first | (go_at_call 86; refine (foDefinite_any _ _ _ _).mono ?_; rintro e w' ⟨rfl, hB⟩; obtain ⟨hC, hF⟩ := bcell hB; have hS := hB.size; (try simp at hS); (try have hSl := Nat.lt_of_succ_le hS); (try have hS0 : w.heap.size < w'.heap.size := by omega); (try have hS1 : w.heap.size + 1 < w'.heap.size := by omega); (try have hS2 : w.heap.size + 1 + 1 < w'.heap.size := by omega); (try have hS3 : w.heap.size + 1 + 1 + 1 < w'.heap.size := by omega)) | (go_at_call 54; refine (laGood_any _ _ _ _ ha).mono ?_; rintro e w' ⟨rfl, hB⟩; obtain ⟨hC, hF⟩ := bcell hB; have hS := hB.size; (try simp at hS); (try have hSl := Nat.lt_of_succ_le hS); (try have hS0 : w.heap.size < w'.heap.size := by omega); (try have hS1 : w.heap.size + 1 < w'.heap.size := by omega); (try have hS2 : w.heap.size + 1 + 1 < w'.heap.size := by omega); (try have hS3 : w.heap.size + 1 + 1 + 1 < w'.heap.size := by omega)) | (go_at_call 66; refine (laForm_any _ _ _ _ _ _ _).mono ?_; rintro e w' ⟨rfl, hB⟩; obtain ⟨hC, hF⟩ := bcell hB; have hS := hB.size; (try simp at hS); (try have hSl := Nat.lt_of_succ_le hS); (try have hS0 : w.heap.size < w'.heap.size := by omega); (try have hS1 : w.heap.size + 1 < w'.heap.size := by omega); (try have hS2 : w.heap.size + 1 + 1 < w'.heap.size := by omega); (try have hS3 : w.heap.size + 1 + 1 + 1 < w'.heap.size := by omega)) | (go_at_call 87; refine (foGood_any _ _ _ _).mono ?_; rintro e w' ⟨rfl, hB⟩; obtain ⟨hC, hF⟩ := bcell hB; have hS := hB.size; (try simp at hS); (try have hSl := Nat.lt_of_succ_le hS); (try have hS0 : w.heap.size < w'.heap.size := by omega); (try have hS1 : w.heap.size + 1 < w'.heap.size := by omega); (try have hS2 : w.heap.size + 1 + 1 < w'.heap.size := by omega); (try have hS3 : w.heap.size + 1 + 1 + 1 < w'.heap.size := by omega)))
  all_goals
    go_ret
    refine ⟨ret_bool ?_, ?_⟩
    · go_light; simp_all [flB]
    · repeat (first | with_reducible exact Below.refl _ _ | with_reducible assumption | ((with_reducible refine blA ?_ ?_); (focus (first | omega | (simp <;> omega)))) | (with_reducible refine blD ?_) | (with_reducible refine blN ?_) | ((with_reducible refine blS ?_ ?_); (focus (first | omega | (simp <;> omega)))) | ((with_reducible refine blT (by assumption) ?_ ?_); (focus (first | omega | (simp <;> omega)))))
set_option maxRecDepth 100000 in
set_option maxHeartbeats 2000000 in
theorem specFormOnLattice_any (p q r a b d : Int) (w : World) (ha : I64 a) :
    Calls Try.prog 30 #[.agg #[.int .i64 p, .int .i64 q, .int .i64 r], .agg #[.int .i64 a, .int .i64 b, .int .i64 d]] w fun en w' => en = .returned (.tuple #[.agg #[.int .i64 (flz (flB p q r a b d) (gA p q r a)), .int .i64 (flz (flB p q r a b d) (gB p q r a b d)), .int .i64 (flz (flB p q r a b d) (gC p q r b d))], .bool (flB p q r a b d)]) ∧ Below w.heap.size w w' := by
  go_enter Try.func30, Try.ntmps30
  go_wp2_with (first | (go_at_call 65; refine (laAsked_any _ _ _ _ _ _ _ ha).mono ?_; rintro e w' ⟨rfl, hB⟩; obtain ⟨hC, hF⟩ := bcell hB; have hS := hB.size; (try simp at hS); (try have hSl := Nat.lt_of_succ_le hS); (try have hS0 : w.heap.size < w'.heap.size := by omega); (try have hS1 : w.heap.size + 1 < w'.heap.size := by omega); (try have hS2 : w.heap.size + 1 + 1 < w'.heap.size := by omega); (try have hS3 : w.heap.size + 1 + 1 + 1 < w'.heap.size := by omega)) | (go_at_call 66; refine (laForm_any _ _ _ _ _ _ _).mono ?_; rintro e w' ⟨rfl, hB⟩; obtain ⟨hC, hF⟩ := bcell hB; have hS := hB.size; (try simp at hS); (try have hSl := Nat.lt_of_succ_le hS); (try have hS0 : w.heap.size < w'.heap.size := by omega); (try have hS1 : w.heap.size + 1 < w'.heap.size := by omega); (try have hS2 : w.heap.size + 1 + 1 < w'.heap.size := by omega); (try have hS3 : w.heap.size + 1 + 1 + 1 < w'.heap.size := by omega)))
  all_goals first
    | (refine bodyPost_ret (v := .tuple #[.agg #[.int .i64 0, .int .i64 0, .int .i64 0], .bool false]) ?_ rfl ⟨?_, ?_⟩; (focus (go_light; first | (simp [results, Try.results30, go_sem, *]; done) | (simp (disch := first | omega | (simp <;> omega) | (refine isSome_of ?_ ?_; (focus ((repeat (first | ((with_reducible refine (cell_alloc_old _ _ _ _ ?_).trans ?_); (focus (first | omega | (simp <;> omega)))) | ((with_reducible refine (bG (by assumption) ?_).trans ?_); (focus (first | omega | (simp <;> omega)))))); exact rfl)); simp [go_sem]) | fail) [results, Try.results30, go_sem, *]; done))); (focus (go_light; rw [show flB p q r a b d = false by simp_all]; rfl)); repeat (first | with_reducible exact Below.refl _ _ | with_reducible assumption | ((with_reducible refine blA ?_ ?_); (focus (first | omega | (simp <;> omega)))) | (with_reducible refine blD ?_) | (with_reducible refine blN ?_) | ((with_reducible refine blS ?_ ?_); (focus (first | omega | (simp <;> omega)))) | ((with_reducible refine blT (by assumption) ?_ ?_); (focus (first | omega | (simp <;> omega))))))
    | (refine bodyPost_ret (v := .tuple #[.agg #[.int .i64 (gA p q r a), .int .i64 (gB p q r a b d), .int .i64 (gC p q r b d)], .bool true]) ?_ rfl ⟨?_, ?_⟩; (focus (go_light; first | (simp [results, Try.results30, go_sem, *]; done) | (simp (disch := first | omega | (simp <;> omega) | (refine isSome_of ?_ ?_; (focus ((repeat (first | ((with_reducible refine (cell_alloc_old _ _ _ _ ?_).trans ?_); (focus (first | omega | (simp <;> omega)))) | ((with_reducible refine (bG (by assumption) ?_).trans ?_); (focus (first | omega | (simp <;> omega)))))); exact rfl)); simp [go_sem]) | fail) [results, Try.results30, go_sem, *]; done))); (focus (go_light; rw [show flB p q r a b d = true by simp_all]; rfl)); repeat (first | with_reducible exact Below.refl _ _ | with_reducible assumption | ((with_reducible refine blA ?_ ?_); (focus (first | omega | (simp <;> omega)))) | (with_reducible refine blD ?_) | (with_reducible refine blN ?_) | ((with_reducible refine blS ?_ ?_); (focus (first | omega | (simp <;> omega)))) | ((with_reducible refine blT (by assumption) ?_ ?_); (focus (first | omega | (simp <;> omega))))))
set_option maxRecDepth 100000 in
set_option maxHeartbeats 2000000 in
theorem law_formOnLattice (p q r a b d : Int) (w : World) (_ : I64 p) (_ : I64 q) (_ : I64 r) (ha : I64 a) (_ : I64 b) (_ : I64 d) :
    Calls Try.prog 9 #[.agg #[.int .i64 p, .int .i64 q, .int .i64 r], .agg #[.int .i64 a, .int .i64 b, .int .i64 d]] w fun en w' => en = .returned (.bool true) ∧ Below w.heap.size w w' := by
  go_enter Try.func9, Try.ntmps9
  go_wp2_with fail
  refine region_mixed 8 (by kernel_rfl) (by kernel_rfl) (by kernel_rfl) ?_
  apply Exists.intro
  refine ⟨fun w0 hw0 => ?_, ?_⟩
  · obtain ⟨hC0, hF0⟩ := bcell hw0
    have hS0 := hw0.size
    (try simp at hS0)
    (try have hS0_w0 : w.heap.size < w0.heap.size := by omega)
    (try have hS0_w1 : w.heap.size + 1 < w0.heap.size := by omega)
    (try have hS0_w2 : w.heap.size + 1 + 1 < w0.heap.size := by omega)
    (try have hS0_w3 : w.heap.size + 1 + 1 + 1 < w0.heap.size := by omega)
    (try have hS0_w4 : w.heap.size + 1 + 1 + 1 + 1 < w0.heap.size := by omega)
    (try have hL0_w0 : w.heap.size ≤ w0.heap.size := by omega)
    (try have hL0_w1 : w.heap.size + 1 ≤ w0.heap.size := by omega)
    (try have hL0_w2 : w.heap.size + 1 + 1 ≤ w0.heap.size := by omega)
    (try have hL0_w3 : w.heap.size + 1 + 1 + 1 ≤ w0.heap.size := by omega)
    (try have hL0_w : w.heap.size ≤ w0.heap.size + 1 := by omega)
    (try have hM0_1 : w.heap.size < w0.heap.size + 1 := by omega)
    (try have hM0_2 : w.heap.size < w0.heap.size + 1 + 1 := by omega)
    (try have hM0_3 : w.heap.size < w0.heap.size + 1 + 1 + 1 := by omega)
    simp only [List.take_succ_cons, List.take_zero]
    repeat (first | go_big_quiet_skip | (go_big_quiet_want; go_big_quiet_op; first | go_big_quiet_on | (apply Exists.intro; refine ⟨fun _ => ?_, ?_⟩; (focus (first | (go_at_call 31; exact past_of (toForm_any _ _ _ _)) | (go_at_call 16; exact past_of (toLattice_any _ _ _ _)) | (go_at_call 30; exact past_of (specFormOnLattice_any _ _ _ _ _ _ _ ha)))); go_big_quiet_on)))
    refine wpQuiet_nil ?_
    rfl
  intro W hW hWz
  simp only [List.drop_succ_cons, List.drop_zero]
  refine eff_new #[.int .i64 0, .int .i64 0, .int .i64 0] 46 [.int .i64 (flz (flB p q r a b d) (gA p q r a)), .int .i64 (flz (flB p q r a b d) (gB p q r a b d)), .int .i64 (flz (flB p q r a b d) (gC p q r b d))] rfl rfl rfl rfl (fun _ => by simp [go_sem]) (cl_refl _) (fun wa wb hb => ?_) (fun w1 hV1 => ?_)
  · obtain ⟨hc, hf⟩ := bnew hb
    refine ⟨.skip, ?_, Or.inl rfl⟩
    simp [go_sem, setAll, Act.put, hc, hf]
  have hB1 := hW.trans (hV1.mono hW.size)
  obtain ⟨hC1, hF1⟩ := bcell hB1
  have hS1 := hB1.size
  (try simp at hS1)
  (try have hS1_w0 : w.heap.size < w1.heap.size := by omega)
  (try have hS1_w1 : w.heap.size + 1 < w1.heap.size := by omega)
  (try have hS1_w2 : w.heap.size + 1 + 1 < w1.heap.size := by omega)
  (try have hS1_w3 : w.heap.size + 1 + 1 + 1 < w1.heap.size := by omega)
  (try have hS1_w4 : w.heap.size + 1 + 1 + 1 + 1 < w1.heap.size := by omega)
  (try have hL1_w0 : w.heap.size ≤ w1.heap.size := by omega)
  (try have hL1_w1 : w.heap.size + 1 ≤ w1.heap.size := by omega)
  (try have hL1_w2 : w.heap.size + 1 + 1 ≤ w1.heap.size := by omega)
  (try have hL1_w3 : w.heap.size + 1 + 1 + 1 ≤ w1.heap.size := by omega)
  (try have hL1_w : w.heap.size ≤ w1.heap.size + 1 := by omega)
  (try have hM1_1 : w.heap.size < w1.heap.size + 1 := by omega)
  (try have hM1_2 : w.heap.size < w1.heap.size + 1 + 1 := by omega)
  (try have hM1_3 : w.heap.size < w1.heap.size + 1 + 1 + 1 := by omega)
  have hK : Cl W (w1.alloc (.cells #[.int .i64 (flz (flB p q r a b d) (gA p q r a)), .int .i64 (flz (flB p q r a b d) (gB p q r a b d)), .int .i64 (flz (flB p q r a b d) (gC p q r b d))] 46)) := (cl_of hV1).alloc _
  refine eff_set _ rfl rfl hK ?_
  clear hK
  intro w2 hV2
  have hB2 := past_below hV2
  clear hV1 hV2 hW hWz
  obtain ⟨hC2, hF2⟩ := bcell hB2
  have hS2 := hB2.size
  (try simp at hS2)
  (try have hS2_w0 : w.heap.size < w2.heap.size := by omega)
  (try have hS2_w1 : w.heap.size + 1 < w2.heap.size := by omega)
  (try have hS2_w2 : w.heap.size + 1 + 1 < w2.heap.size := by omega)
  (try have hS2_w3 : w.heap.size + 1 + 1 + 1 < w2.heap.size := by omega)
  (try have hS2_w4 : w.heap.size + 1 + 1 + 1 + 1 < w2.heap.size := by omega)
  (try have hL2_w0 : w.heap.size ≤ w2.heap.size := by omega)
  (try have hL2_w1 : w.heap.size + 1 ≤ w2.heap.size := by omega)
  (try have hL2_w2 : w.heap.size + 1 + 1 ≤ w2.heap.size := by omega)
  (try have hL2_w3 : w.heap.size + 1 + 1 + 1 ≤ w2.heap.size := by omega)
  (try have hL2_w : w.heap.size ≤ w2.heap.size + 1 := by omega)
  (try have hM2_1 : w.heap.size < w2.heap.size + 1 := by omega)
  (try have hM2_2 : w.heap.size < w2.heap.size + 1 + 1 := by omega)
  (try have hM2_3 : w.heap.size < w2.heap.size + 1 + 1 + 1 := by omega)
  (try have hN2_1_00 : w1.heap.size < w2.heap.size := by omega)
  (try have hN2_1_01 : w1.heap.size < w2.heap.size + 1 := by omega)
  (try have hN2_1_02 : w1.heap.size < w2.heap.size + 1 + 1 := by omega)
  (try have hN2_1_10 : w1.heap.size + 1 < w2.heap.size := by omega)
  (try have hN2_1_11 : w1.heap.size + 1 < w2.heap.size + 1 := by omega)
  (try have hN2_1_12 : w1.heap.size + 1 < w2.heap.size + 1 + 1 := by omega)
  (try have hN2_1_20 : w1.heap.size + 1 + 1 < w2.heap.size := by omega)
  (try have hN2_1_21 : w1.heap.size + 1 + 1 < w2.heap.size + 1 := by omega)
  (try have hN2_1_22 : w1.heap.size + 1 + 1 < w2.heap.size + 1 + 1 := by omega)
  (try have hL2_1 : w1.heap.size ≤ w2.heap.size := by omega)
  (try have hS2_1 : w1.heap.size < w2.heap.size := by omega)
  (try have hS2_1' : w1.heap.size + 1 < w2.heap.size := by omega)
  simp only [Act.put, Act.eval, List.setIfInBounds_toArray, List.set_cons_zero, List.set_cons_succ]
  go_wp2_with fail
  refine region_mixed 8 (by kernel_rfl) (by kernel_rfl) (by kernel_rfl) ?_
  apply Exists.intro
  refine ⟨fun w0 hw0 => ?_, ?_⟩
  · obtain ⟨hC0, hF0⟩ := bcell hw0
    have hS0 := hw0.size
    (try simp at hS0)
    (try have hS0_w0 : w.heap.size < w0.heap.size := by omega)
    (try have hS0_w1 : w.heap.size + 1 < w0.heap.size := by omega)
    (try have hS0_w2 : w.heap.size + 1 + 1 < w0.heap.size := by omega)
    (try have hS0_w3 : w.heap.size + 1 + 1 + 1 < w0.heap.size := by omega)
    (try have hS0_w4 : w.heap.size + 1 + 1 + 1 + 1 < w0.heap.size := by omega)
    (try have hL0_w0 : w.heap.size ≤ w0.heap.size := by omega)
    (try have hL0_w1 : w.heap.size + 1 ≤ w0.heap.size := by omega)
    (try have hL0_w2 : w.heap.size + 1 + 1 ≤ w0.heap.size := by omega)
    (try have hL0_w3 : w.heap.size + 1 + 1 + 1 ≤ w0.heap.size := by omega)
    (try have hL0_w : w.heap.size ≤ w0.heap.size + 1 := by omega)
    (try have hM0_1 : w.heap.size < w0.heap.size + 1 := by omega)
    (try have hM0_2 : w.heap.size < w0.heap.size + 1 + 1 := by omega)
    (try have hM0_3 : w.heap.size < w0.heap.size + 1 + 1 + 1 := by omega)
    (try have hN0_1_00 : w1.heap.size < w0.heap.size := by omega)
    (try have hN0_1_01 : w1.heap.size < w0.heap.size + 1 := by omega)
    (try have hN0_1_02 : w1.heap.size < w0.heap.size + 1 + 1 := by omega)
    (try have hN0_1_10 : w1.heap.size + 1 < w0.heap.size := by omega)
    (try have hN0_1_11 : w1.heap.size + 1 < w0.heap.size + 1 := by omega)
    (try have hN0_1_12 : w1.heap.size + 1 < w0.heap.size + 1 + 1 := by omega)
    (try have hN0_1_20 : w1.heap.size + 1 + 1 < w0.heap.size := by omega)
    (try have hN0_1_21 : w1.heap.size + 1 + 1 < w0.heap.size + 1 := by omega)
    (try have hN0_1_22 : w1.heap.size + 1 + 1 < w0.heap.size + 1 + 1 := by omega)
    (try have hN0_2_00 : w2.heap.size < w0.heap.size := by omega)
    (try have hN0_2_01 : w2.heap.size < w0.heap.size + 1 := by omega)
    (try have hN0_2_02 : w2.heap.size < w0.heap.size + 1 + 1 := by omega)
    (try have hN0_2_10 : w2.heap.size + 1 < w0.heap.size := by omega)
    (try have hN0_2_11 : w2.heap.size + 1 < w0.heap.size + 1 := by omega)
    (try have hN0_2_12 : w2.heap.size + 1 < w0.heap.size + 1 + 1 := by omega)
    (try have hN0_2_20 : w2.heap.size + 1 + 1 < w0.heap.size := by omega)
    (try have hN0_2_21 : w2.heap.size + 1 + 1 < w0.heap.size + 1 := by omega)
    (try have hN0_2_22 : w2.heap.size + 1 + 1 < w0.heap.size + 1 + 1 := by omega)
    (try have hL0_1 : w1.heap.size ≤ w0.heap.size := by omega)
    (try have hL0_2 : w2.heap.size ≤ w0.heap.size := by omega)
    (try have hS0_1 : w1.heap.size < w0.heap.size := by omega)
    (try have hS0_1' : w1.heap.size + 1 < w0.heap.size := by omega)
    (try have hS0_2 : w2.heap.size < w0.heap.size := by omega)
    (try have hS0_2' : w2.heap.size + 1 < w0.heap.size := by omega)
    simp only [List.take_succ_cons, List.take_zero]
    repeat (first | go_big_quiet_skip | (go_big_quiet_want; go_big_quiet_op; first | go_big_quiet_on | (apply Exists.intro; refine ⟨fun _ => ?_, ?_⟩; (focus (first | (go_at_call 31; exact past_of (toForm_any _ _ _ _)) | (go_at_call 16; exact past_of (toLattice_any _ _ _ _)) | (go_at_call 32; exact past_of (implFormOnLattice_any _ _ _ _ _ _ _)))); go_big_quiet_on)))
    refine wpQuiet_nil ?_
    rfl
  intro W hW hWz
  simp only [List.drop_succ_cons, List.drop_zero]
  refine eff_new #[.int .i64 0, .int .i64 0, .int .i64 0] 46 [.int .i64 (flz (flB p q r a b d) (gA p q r a)), .int .i64 (flz (flB p q r a b d) (gB p q r a b d)), .int .i64 (flz (flB p q r a b d) (gC p q r b d))] rfl rfl rfl rfl (fun _ => by simp [go_sem]) (cl_refl _) (fun wa wb hb => ?_) (fun w3 hV3 => ?_)
  · obtain ⟨hc, hf⟩ := bnew hb
    refine ⟨.skip, ?_, Or.inl rfl⟩
    simp [go_sem, setAll, Act.put, hc, hf]
  have hB3 := hW.trans (hV3.mono hW.size)
  obtain ⟨hC3, hF3⟩ := bcell hB3
  have hS3 := hB3.size
  (try simp at hS3)
  (try have hS3_w0 : w.heap.size < w3.heap.size := by omega)
  (try have hS3_w1 : w.heap.size + 1 < w3.heap.size := by omega)
  (try have hS3_w2 : w.heap.size + 1 + 1 < w3.heap.size := by omega)
  (try have hS3_w3 : w.heap.size + 1 + 1 + 1 < w3.heap.size := by omega)
  (try have hS3_w4 : w.heap.size + 1 + 1 + 1 + 1 < w3.heap.size := by omega)
  (try have hL3_w0 : w.heap.size ≤ w3.heap.size := by omega)
  (try have hL3_w1 : w.heap.size + 1 ≤ w3.heap.size := by omega)
  (try have hL3_w2 : w.heap.size + 1 + 1 ≤ w3.heap.size := by omega)
  (try have hL3_w3 : w.heap.size + 1 + 1 + 1 ≤ w3.heap.size := by omega)
  (try have hL3_w : w.heap.size ≤ w3.heap.size + 1 := by omega)
  (try have hM3_1 : w.heap.size < w3.heap.size + 1 := by omega)
  (try have hM3_2 : w.heap.size < w3.heap.size + 1 + 1 := by omega)
  (try have hM3_3 : w.heap.size < w3.heap.size + 1 + 1 + 1 := by omega)
  (try have hN3_1_00 : w1.heap.size < w3.heap.size := by omega)
  (try have hN3_1_01 : w1.heap.size < w3.heap.size + 1 := by omega)
  (try have hN3_1_02 : w1.heap.size < w3.heap.size + 1 + 1 := by omega)
  (try have hN3_1_10 : w1.heap.size + 1 < w3.heap.size := by omega)
  (try have hN3_1_11 : w1.heap.size + 1 < w3.heap.size + 1 := by omega)
  (try have hN3_1_12 : w1.heap.size + 1 < w3.heap.size + 1 + 1 := by omega)
  (try have hN3_1_20 : w1.heap.size + 1 + 1 < w3.heap.size := by omega)
  (try have hN3_1_21 : w1.heap.size + 1 + 1 < w3.heap.size + 1 := by omega)
  (try have hN3_1_22 : w1.heap.size + 1 + 1 < w3.heap.size + 1 + 1 := by omega)
  (try have hN3_2_00 : w2.heap.size < w3.heap.size := by omega)
  (try have hN3_2_01 : w2.heap.size < w3.heap.size + 1 := by omega)
  (try have hN3_2_02 : w2.heap.size < w3.heap.size + 1 + 1 := by omega)
  (try have hN3_2_10 : w2.heap.size + 1 < w3.heap.size := by omega)
  (try have hN3_2_11 : w2.heap.size + 1 < w3.heap.size + 1 := by omega)
  (try have hN3_2_12 : w2.heap.size + 1 < w3.heap.size + 1 + 1 := by omega)
  (try have hN3_2_20 : w2.heap.size + 1 + 1 < w3.heap.size := by omega)
  (try have hN3_2_21 : w2.heap.size + 1 + 1 < w3.heap.size + 1 := by omega)
  (try have hN3_2_22 : w2.heap.size + 1 + 1 < w3.heap.size + 1 + 1 := by omega)
  (try have hL3_1 : w1.heap.size ≤ w3.heap.size := by omega)
  (try have hL3_2 : w2.heap.size ≤ w3.heap.size := by omega)
  (try have hS3_1 : w1.heap.size < w3.heap.size := by omega)
  (try have hS3_1' : w1.heap.size + 1 < w3.heap.size := by omega)
  (try have hS3_2 : w2.heap.size < w3.heap.size := by omega)
  (try have hS3_2' : w2.heap.size + 1 < w3.heap.size := by omega)
  have hK : Cl W (w3.alloc (.cells #[.int .i64 (flz (flB p q r a b d) (gA p q r a)), .int .i64 (flz (flB p q r a b d) (gB p q r a b d)), .int .i64 (flz (flB p q r a b d) (gC p q r b d))] 46)) := (cl_of hV3).alloc _
  refine eff_set _ rfl rfl hK ?_
  clear hK
  intro w4 hV4
  have hB4 := past_below hV4
  clear hV3 hV4 hW hWz
  obtain ⟨hC4, hF4⟩ := bcell hB4
  have hS4 := hB4.size
  (try simp at hS4)
  (try have hS4_w0 : w.heap.size < w4.heap.size := by omega)
  (try have hS4_w1 : w.heap.size + 1 < w4.heap.size := by omega)
  (try have hS4_w2 : w.heap.size + 1 + 1 < w4.heap.size := by omega)
  (try have hS4_w3 : w.heap.size + 1 + 1 + 1 < w4.heap.size := by omega)
  (try have hS4_w4 : w.heap.size + 1 + 1 + 1 + 1 < w4.heap.size := by omega)
  (try have hL4_w0 : w.heap.size ≤ w4.heap.size := by omega)
  (try have hL4_w1 : w.heap.size + 1 ≤ w4.heap.size := by omega)
  (try have hL4_w2 : w.heap.size + 1 + 1 ≤ w4.heap.size := by omega)
  (try have hL4_w3 : w.heap.size + 1 + 1 + 1 ≤ w4.heap.size := by omega)
  (try have hL4_w : w.heap.size ≤ w4.heap.size + 1 := by omega)
  (try have hM4_1 : w.heap.size < w4.heap.size + 1 := by omega)
  (try have hM4_2 : w.heap.size < w4.heap.size + 1 + 1 := by omega)
  (try have hM4_3 : w.heap.size < w4.heap.size + 1 + 1 + 1 := by omega)
  (try have hN4_1_00 : w1.heap.size < w4.heap.size := by omega)
  (try have hN4_1_01 : w1.heap.size < w4.heap.size + 1 := by omega)
  (try have hN4_1_02 : w1.heap.size < w4.heap.size + 1 + 1 := by omega)
  (try have hN4_1_10 : w1.heap.size + 1 < w4.heap.size := by omega)
  (try have hN4_1_11 : w1.heap.size + 1 < w4.heap.size + 1 := by omega)
  (try have hN4_1_12 : w1.heap.size + 1 < w4.heap.size + 1 + 1 := by omega)
  (try have hN4_1_20 : w1.heap.size + 1 + 1 < w4.heap.size := by omega)
  (try have hN4_1_21 : w1.heap.size + 1 + 1 < w4.heap.size + 1 := by omega)
  (try have hN4_1_22 : w1.heap.size + 1 + 1 < w4.heap.size + 1 + 1 := by omega)
  (try have hN4_2_00 : w2.heap.size < w4.heap.size := by omega)
  (try have hN4_2_01 : w2.heap.size < w4.heap.size + 1 := by omega)
  (try have hN4_2_02 : w2.heap.size < w4.heap.size + 1 + 1 := by omega)
  (try have hN4_2_10 : w2.heap.size + 1 < w4.heap.size := by omega)
  (try have hN4_2_11 : w2.heap.size + 1 < w4.heap.size + 1 := by omega)
  (try have hN4_2_12 : w2.heap.size + 1 < w4.heap.size + 1 + 1 := by omega)
  (try have hN4_2_20 : w2.heap.size + 1 + 1 < w4.heap.size := by omega)
  (try have hN4_2_21 : w2.heap.size + 1 + 1 < w4.heap.size + 1 := by omega)
  (try have hN4_2_22 : w2.heap.size + 1 + 1 < w4.heap.size + 1 + 1 := by omega)
  (try have hN4_3_00 : w3.heap.size < w4.heap.size := by omega)
  (try have hN4_3_01 : w3.heap.size < w4.heap.size + 1 := by omega)
  (try have hN4_3_02 : w3.heap.size < w4.heap.size + 1 + 1 := by omega)
  (try have hN4_3_10 : w3.heap.size + 1 < w4.heap.size := by omega)
  (try have hN4_3_11 : w3.heap.size + 1 < w4.heap.size + 1 := by omega)
  (try have hN4_3_12 : w3.heap.size + 1 < w4.heap.size + 1 + 1 := by omega)
  (try have hN4_3_20 : w3.heap.size + 1 + 1 < w4.heap.size := by omega)
  (try have hN4_3_21 : w3.heap.size + 1 + 1 < w4.heap.size + 1 := by omega)
  (try have hN4_3_22 : w3.heap.size + 1 + 1 < w4.heap.size + 1 + 1 := by omega)
  (try have hL4_1 : w1.heap.size ≤ w4.heap.size := by omega)
  (try have hL4_2 : w2.heap.size ≤ w4.heap.size := by omega)
  (try have hL4_3 : w3.heap.size ≤ w4.heap.size := by omega)
  (try have hS4_1 : w1.heap.size < w4.heap.size := by omega)
  (try have hS4_1' : w1.heap.size + 1 < w4.heap.size := by omega)
  (try have hS4_2 : w2.heap.size < w4.heap.size := by omega)
  (try have hS4_2' : w2.heap.size + 1 < w4.heap.size := by omega)
  (try have hS4_3 : w3.heap.size < w4.heap.size := by omega)
  (try have hS4_3' : w3.heap.size + 1 < w4.heap.size := by omega)
  simp only [Act.put, Act.eval, List.setIfInBounds_toArray, List.set_cons_zero, List.set_cons_succ]
  go_wp2_with (go_at_call 33; refine (eqForm_same _ _ _ _).mono ?_; rintro e w' ⟨rfl, hB⟩; obtain ⟨hC, hF⟩ := bcell hB; have hS := hB.size; (try simp at hS); (try have hSl := Nat.lt_of_succ_le hS); (try have hS0 : w.heap.size < w'.heap.size := by omega); (try have hS1 : w.heap.size + 1 < w'.heap.size := by omega); (try have hS2 : w.heap.size + 1 + 1 < w'.heap.size := by omega); (try have hS3 : w.heap.size + 1 + 1 + 1 < w'.heap.size := by omega))
  go_ret
  refine ⟨rfl, ?_⟩
  repeat (first | with_reducible exact Below.refl _ _ | with_reducible assumption | ((with_reducible refine blA ?_ ?_); (focus (first | omega | (simp <;> omega)))) | (with_reducible refine blD ?_) | (with_reducible refine blN ?_) | ((with_reducible refine blS ?_ ?_); (focus (first | omega | (simp <;> omega)))) | ((with_reducible refine blT (by assumption) ?_ ?_); (focus (first | omega | (simp <;> omega)))))
end Go.Proofs.Ytdeboabifcpdbaa
