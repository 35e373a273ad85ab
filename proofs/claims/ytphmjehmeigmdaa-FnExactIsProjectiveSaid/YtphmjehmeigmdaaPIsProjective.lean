/-
  The statement of FnExactIsProjective: for all arguments the law returns true, and nothing that was there has changed. No conditions.
-/
import Derived.Test.YtphmjehmeigmdaaFrame
import Derived.Test.YtphmjehmeigmdaaCubeP
namespace Go.Proofs.Ytphmjehmeigmdaa.fnExactIsProjective
open Go.ChangeShapes Go.WideShapes Go.ChangeAt Go.RowKit Go.Proofs.Ytphmjehmeigmdaa
open Go.ChangeMaps (open_string shut_string)
set_option linter.unusedVariables false

theorem cellsCube : Try.prog.cellsOf 23 = 8 := by kernel_rfl
theorem intsCube {H : Type} {enc : TypeId × Value → H} {w : World} {base : Nat} {spare : Nat → Bool} {held : Bool} {fuel : Nat} {cs : List Value} {x : DataW H × List MemPlace} (h : DataW.trod enc Try.prog w base spare held fuel 23 cs = some x) : Ints cs :=
  ints_uniform (te := 3) (k := 1) Try.underlying23 (by kernel_rfl) (by kernel_rfl) (by kernel_rfl) (fun _ _ _ h => ints_int Try.underlying3 h) h

set_option maxRecDepth 100000 in
theorem lifted (os : Os) (started : os.Started) (H : Type) (enc : TypeId × Value → H) :
    ReturnsInHanded {} Try.checked os 9 .any (Rows.fnExactIsProjectiveSpec.pre6 enc Try.prog Try.f9 Rows.fnExactIsProjectiveRow.domain false) (Rows.fnExactIsProjectiveSpec.post enc Try.prog Try.f9 false true false false) := by
  refine returnsInHanded_of_change (C := Try.checked) own started (by kernel_rfl) Try.func9
    (ChangeSpec.witness6 (enc := enc) (C := Try.checked) false ⟨#[], #[.agg #[.int .i64 0, .int .i64 0, .int .i64 0, .int .i64 0, .int .i64 0, .int .i64 0, .int .i64 0, .int .i64 0]], []⟩ 8 (by kernel_rfl) (by kernel_rfl) (by kernel_rfl) (by kernel_rfl)) ?_
  intro W base args ds gs before hval0 hW hcnd hsz
  have hval : ∀ (j : Nat) t v, Try.f9.params[j]? = some t → args[j]? = some v → Value.okWide Try.prog W .any base t v := hval0
  have hW' := hW
  obtain ⟨p, q, hA0, hV, rfl, hfz, hnd⟩ := hW
  have hA : DataW.TrodAll enc Try.prog W 0 (fun _ => true) true Try.f9.params.toList args.toList ds p := hA0
  rw [Try.params9] at hA hval
  obtain ⟨v0, vs0, d0, ds0, p0, q0, hargs, rfl, rfl, h0, r0⟩ := trodAll_cons hA
  obtain ⟨rfl, rfl, rfl⟩ := trodAll_nil r0
  obtain rfl : args = #[v0] := by cases args; simp_all
  obtain ⟨rfl, rfl⟩ := trodVars_none hV
  have k0 := h0
  have lt0 : ∀ x ∈ p0, x.block < W.heap.size := by obtain ⟨m, hm⟩ := k0; exact DataW.trod_lt m _ _ _ hm
  obtain ⟨l0, hl0, rfl, hb0⟩ := open_struct Try.underlying23 (hval 0 23 v0 rfl rfl) h0 (fun _ _ _ h => intsCube h)
  rw [cellsCube] at hl0
  obtain ⟨a0x0, a0x1, a0x2, a0x3, a0x4, a0x5, a0x6, a0x7, rfl⟩ := list8 hl0
  clear hA0 hval0
  refine (law_isProjective a0x0 a0x1 a0x2 a0x3 a0x4 a0x5 a0x6 a0x7 W (hb0 a0x0 (by simp)) (hb0 a0x1 (by simp)) (hb0 a0x2 (by simp)) (hb0 a0x3 (by simp)) (hb0 a0x4 (by simp)) (hb0 a0x5 (by simp)) (hb0 a0x6 (by simp)) (hb0 a0x7 (by simp))).mono fun e W' ⟨he, bel⟩ => ?_
  subst he
  exact ⟨_, rfl, _, _, _, [], _, [], hW', trodAll_mk1 (shut_bool Try.underlying4 _), (trodAll_cons_mk (Below.trod laidOut (by kernel_rfl) (of_decide_eq_true (by kernel_rfl)) k0 bel lt0) trodAll_mk0), rfl, bel.frame _, fun h => by cases h⟩

theorem funcNo : Try.prog.funcNamed Rows.fnExactIsProjectiveRow.func = some 9 := by kernel_rfl
theorem closed : joinedFacts Try.prog 9 Try.f9 Rows.fnExactIsProjectiveSpec Rows.fnExactIsProjectiveRow = true := by
  unfold joinedFacts
  rw [mayFact, liftsFact, makeFact, mapsFact, laidFact]
  kernel_rfl
theorem over : Rows.fnExactIsProjectiveRow.holds Try.pinned (OpenSpec.ofChange Rows.fnExactIsProjectiveSpec) :=
  OpenClaim.holds_of_wide 9 Try.f9 rfl rfl rfl rfl rfl rfl rfl ⟨rfl, rfl, rfl, rfl, rfl⟩ rfl rfl rfl rfl rfl funcNo Try.func9 closed
    (of_decide_eq_true (by kernel_rfl)) (by unfold Func.isWrapper; first | (rw [if_pos (by decide +kernel)]; kernel_rfl) | (rw [if_neg (by decide +kernel)]; exact ⟨rfl, rfl⟩))
    (fun os started H enc _ => lifted os started H enc)

theorem proved : Rows.FnExactIsProjectiveSaid := over
#print axioms proved
end Go.Proofs.Ytphmjehmeigmdaa.fnExactIsProjective
