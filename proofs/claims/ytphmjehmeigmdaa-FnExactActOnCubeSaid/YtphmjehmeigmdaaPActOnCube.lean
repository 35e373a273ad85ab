/-
  The statement of FnExactActOnCube: for all arguments the law returns true, and nothing that was there has changed. No conditions.
-/
import Derived.Test.YtphmjehmeigmdaaFrame
import Derived.Test.YtphmjehmeigmdaaActL
namespace Go.Proofs.Ytphmjehmeigmdaa.fnExactActOnCube
open Go.ChangeShapes Go.WideShapes Go.ChangeAt Go.RowKit Go.Proofs.Ytphmjehmeigmdaa
open Go.ChangeMaps (open_string shut_string)
set_option linter.unusedVariables false

theorem cellsCube : Try.prog.cellsOf 23 = 8 := by kernel_rfl
theorem intsCube {H : Type} {enc : TypeId × Value → H} {w : World} {base : Nat} {spare : Nat → Bool} {held : Bool} {fuel : Nat} {cs : List Value} {x : DataW H × List MemPlace} (h : DataW.trod enc Try.prog w base spare held fuel 23 cs = some x) : Ints cs :=
  ints_uniform (te := 3) (k := 1) Try.underlying23 (by kernel_rfl) (by kernel_rfl) (by kernel_rfl) (fun _ _ _ h => ints_int Try.underlying3 h) h
theorem cellsMatrix : Try.prog.cellsOf 43 = 4 := by kernel_rfl
theorem intsMatrix {H : Type} {enc : TypeId × Value → H} {w : World} {base : Nat} {spare : Nat → Bool} {held : Bool} {fuel : Nat} {cs : List Value} {x : DataW H × List MemPlace} (h : DataW.trod enc Try.prog w base spare held fuel 43 cs = some x) : Ints cs :=
  ints_uniform (te := 3) (k := 1) Try.underlying43 (by kernel_rfl) (by kernel_rfl) (by kernel_rfl) (fun _ _ _ h => ints_int Try.underlying3 h) h

set_option maxRecDepth 100000 in
theorem lifted (os : Os) (started : os.Started) (H : Type) (enc : TypeId × Value → H) :
    ReturnsInHanded {} Try.checked os 10 .any (Rows.fnExactActOnCubeSpec.pre6 enc Try.prog Try.f10 Rows.fnExactActOnCubeRow.domain false) (Rows.fnExactActOnCubeSpec.post enc Try.prog Try.f10 false true false false) := by
  refine returnsInHanded_of_change (C := Try.checked) own started (by kernel_rfl) Try.func10
    (ChangeSpec.witness6 (enc := enc) (C := Try.checked) false ⟨#[], #[.agg #[.int .i64 0, .int .i64 0, .int .i64 0, .int .i64 0, .int .i64 0, .int .i64 0, .int .i64 0, .int .i64 0], .int .i64 0, .agg #[.int .i64 0, .int .i64 0, .int .i64 0, .int .i64 0]], []⟩ 8 (by kernel_rfl) (by kernel_rfl) (by kernel_rfl) (by kernel_rfl)) ?_
  intro W base args ds gs before hval0 hW hcnd hsz
  have hval : ∀ (j : Nat) t v, Try.f10.params[j]? = some t → args[j]? = some v → Value.okWide Try.prog W .any base t v := hval0
  have hW' := hW
  obtain ⟨p, q, hA0, hV, rfl, hfz, hnd⟩ := hW
  have hA : DataW.TrodAll enc Try.prog W 0 (fun _ => true) true Try.f10.params.toList args.toList ds p := hA0
  rw [Try.params10] at hA hval
  obtain ⟨v0, vs0, d0, ds0, p0, q0, hargs, rfl, rfl, h0, r0⟩ := trodAll_cons hA
  obtain ⟨v1, vs1, d1, ds1, p1, q1, rfl, rfl, rfl, h1, r1⟩ := trodAll_cons r0
  obtain ⟨v2, vs2, d2, ds2, p2, q2, rfl, rfl, rfl, h2, r2⟩ := trodAll_cons r1
  obtain ⟨rfl, rfl, rfl⟩ := trodAll_nil r2
  obtain rfl : args = #[v0, v1, v2] := by cases args; simp_all
  obtain ⟨rfl, rfl⟩ := trodVars_none hV
  have k0 := h0
  have lt0 : ∀ x ∈ p0, x.block < W.heap.size := by obtain ⟨m, hm⟩ := k0; exact DataW.trod_lt m _ _ _ hm
  obtain ⟨l0, hl0, rfl, hb0⟩ := open_struct Try.underlying23 (hval 0 23 v0 rfl rfl) h0 (fun _ _ _ h => intsCube h)
  rw [cellsCube] at hl0
  obtain ⟨a0x0, a0x1, a0x2, a0x3, a0x4, a0x5, a0x6, a0x7, rfl⟩ := list8 hl0
  obtain ⟨a1, rfl, rfl, rfl, w1⟩ := open_int Try.underlying3 (hval 1 3 v1 rfl rfl) h1
  have k2 := h2
  have lt2 : ∀ x ∈ p2, x.block < W.heap.size := by obtain ⟨m, hm⟩ := k2; exact DataW.trod_lt m _ _ _ hm
  obtain ⟨l2, hl2, rfl, hb2⟩ := open_struct Try.underlying43 (hval 2 43 v2 rfl rfl) h2 (fun _ _ _ h => intsMatrix h)
  rw [cellsMatrix] at hl2
  obtain ⟨a2x0, a2x1, a2x2, a2x3, rfl⟩ := list4 hl2
  clear hA0 hval0
  refine (law_actOnCube a0x0 a0x1 a0x2 a0x3 a0x4 a0x5 a0x6 a0x7 a1 a2x0 a2x1 a2x2 a2x3 W (hb0 a0x0 (by simp)) (hb0 a0x1 (by simp)) (hb0 a0x2 (by simp)) (hb0 a0x3 (by simp)) (hb0 a0x4 (by simp)) (hb0 a0x5 (by simp)) (hb0 a0x6 (by simp)) (hb0 a0x7 (by simp)) (bounds_i64 w1) (hb2 a2x0 (by simp)) (hb2 a2x1 (by simp)) (hb2 a2x2 (by simp)) (hb2 a2x3 (by simp))).mono fun e W' ⟨he, bel⟩ => ?_
  subst he
  exact ⟨_, rfl, _, _, _, [], _, [], hW', trodAll_mk1 (shut_bool Try.underlying4 _), (trodAll_cons_mk (Below.trod laidOut (by kernel_rfl) (of_decide_eq_true (by kernel_rfl)) k0 bel lt0) (trodAll_cons_mk (shut_int Try.underlying3 w1) (trodAll_cons_mk (Below.trod laidOut (by kernel_rfl) (of_decide_eq_true (by kernel_rfl)) k2 bel lt2) trodAll_mk0))), rfl, bel.frame _, fun h => by cases h⟩

theorem funcNo : Try.prog.funcNamed Rows.fnExactActOnCubeRow.func = some 10 := by kernel_rfl
theorem closed : joinedFacts Try.prog 10 Try.f10 Rows.fnExactActOnCubeSpec Rows.fnExactActOnCubeRow = true := by
  unfold joinedFacts
  rw [mayFact, liftsFact, makeFact, mapsFact, laidFact]
  kernel_rfl
theorem over : Rows.fnExactActOnCubeRow.holds Try.pinned (OpenSpec.ofChange Rows.fnExactActOnCubeSpec) :=
  OpenClaim.holds_of_wide 10 Try.f10 rfl rfl rfl rfl rfl rfl rfl ⟨rfl, rfl, rfl, rfl, rfl⟩ rfl rfl rfl rfl rfl funcNo Try.func10 closed
    (of_decide_eq_true (by kernel_rfl)) (by unfold Func.isWrapper; first | (rw [if_pos (by decide +kernel)]; kernel_rfl) | (rw [if_neg (by decide +kernel)]; exact ⟨rfl, rfl⟩))
    (fun os started H enc _ => lifted os started H enc)

theorem proved : Rows.FnExactActOnCubeSaid := over
#print axioms proved
end Go.Proofs.Ytphmjehmeigmdaa.fnExactActOnCube
