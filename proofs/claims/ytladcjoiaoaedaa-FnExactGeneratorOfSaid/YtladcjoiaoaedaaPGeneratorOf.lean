/-
  The statement of FnExactGeneratorOf: for all arguments the law returns true, and nothing that was there has changed. No conditions.
-/
import Derived.Test.YtladcjoiaoaedaaFrame
import Derived.Test.YtladcjoiaoaedaaGnl
namespace Go.Proofs.Ytladcjoiaoaedaa.fnExactGeneratorOf
open Go.ChangeShapes Go.WideShapes Go.ChangeAt Go.RowKit Go.Proofs.Ytladcjoiaoaedaa
open Go.ChangeMaps (open_string shut_string)
set_option linter.unusedVariables false

theorem cellsIdeal : Try.prog.cellsOf 31 = 3 := by kernel_rfl
theorem intsIdeal {H : Type} {enc : TypeId × Value → H} {w : World} {base : Nat} {spare : Nat → Bool} {held : Bool} {fuel : Nat} {cs : List Value} {x : DataW H × List MemPlace} (h : DataW.trod enc Try.prog w base spare held fuel 31 cs = some x) : Ints cs :=
  ints_uniform (te := 3) (k := 1) Try.underlying31 (by kernel_rfl) (by kernel_rfl) (by kernel_rfl) (fun _ _ _ h => ints_int Try.underlying3 h) h

set_option maxRecDepth 100000 in
theorem lifted (os : Os) (started : os.Started) (H : Type) (enc : TypeId × Value → H) :
    ReturnsInHanded {} Try.checked os 9 .any (Rows.fnExactGeneratorOfSpec.pre6 enc Try.prog Try.f9 Rows.fnExactGeneratorOfRow.domain false) (Rows.fnExactGeneratorOfSpec.post enc Try.prog Try.f9 false true false false) := by
  refine returnsInHanded_of_change (C := Try.checked) own started (by kernel_rfl) Try.func9
    (ChangeSpec.witness6 (enc := enc) (C := Try.checked) false ⟨#[], #[.int .i64 0, .agg #[.int .i64 0, .int .i64 0, .int .i64 0]], []⟩ 8 (by kernel_rfl) (by kernel_rfl) (by kernel_rfl) (by kernel_rfl)) ?_
  intro W base args ds gs before hval0 hW hcnd hsz
  have hval : ∀ (j : Nat) t v, Try.f9.params[j]? = some t → args[j]? = some v → Value.okWide Try.prog W .any base t v := hval0
  have hW' := hW
  obtain ⟨p, q, hA0, hV, rfl, hfz, hnd⟩ := hW
  have hA : DataW.TrodAll enc Try.prog W 0 (fun _ => true) true Try.f9.params.toList args.toList ds p := hA0
  rw [Try.params9] at hA hval
  obtain ⟨v0, vs0, d0, ds0, p0, q0, hargs, rfl, rfl, h0, r0⟩ := trodAll_cons hA
  obtain ⟨v1, vs1, d1, ds1, p1, q1, rfl, rfl, rfl, h1, r1⟩ := trodAll_cons r0
  obtain ⟨rfl, rfl, rfl⟩ := trodAll_nil r1
  obtain rfl : args = #[v0, v1] := by cases args; simp_all
  obtain ⟨rfl, rfl⟩ := trodVars_none hV
  obtain ⟨a0, rfl, rfl, rfl, w0⟩ := open_int Try.underlying3 (hval 0 3 v0 rfl rfl) h0
  have k1 := h1
  have lt1 : ∀ x ∈ p1, x.block < W.heap.size := by obtain ⟨m, hm⟩ := k1; exact DataW.trod_lt m _ _ _ hm
  obtain ⟨l1, hl1, rfl, hb1⟩ := open_struct Try.underlying31 (hval 1 31 v1 rfl rfl) h1 (fun _ _ _ h => intsIdeal h)
  rw [cellsIdeal] at hl1
  obtain ⟨a1x0, a1x1, a1x2, rfl⟩ := list3 hl1
  clear hA0 hval0
  refine (law_generatorOf a0 a1x0 a1x1 a1x2 W (bounds_i64 w0) (hb1 a1x0 (by simp)) (hb1 a1x1 (by simp)) (hb1 a1x2 (by simp))).mono fun e W' ⟨he, bel⟩ => ?_
  subst he
  exact ⟨_, rfl, _, _, _, [], _, [], hW', trodAll_mk1 (shut_bool Try.underlying4 _), (trodAll_cons_mk (shut_int Try.underlying3 w0) (trodAll_cons_mk (Below.trod laidOut (by kernel_rfl) (of_decide_eq_true (by kernel_rfl)) k1 bel lt1) trodAll_mk0)), rfl, bel.frame _, fun h => by cases h⟩

theorem funcNo : Try.prog.funcNamed Rows.fnExactGeneratorOfRow.func = some 9 := by kernel_rfl
theorem closed : joinedFacts Try.prog 9 Try.f9 Rows.fnExactGeneratorOfSpec Rows.fnExactGeneratorOfRow = true := by
  unfold joinedFacts
  rw [mayFact, liftsFact, makeFact, mapsFact, laidFact]
  kernel_rfl
theorem over : Rows.fnExactGeneratorOfRow.holds Try.pinned (OpenSpec.ofChange Rows.fnExactGeneratorOfSpec) :=
  OpenClaim.holds_of_wide 9 Try.f9 rfl rfl rfl rfl rfl rfl rfl ⟨rfl, rfl, rfl, rfl, rfl⟩ rfl rfl rfl rfl rfl funcNo Try.func9 closed
    (of_decide_eq_true (by kernel_rfl)) (by unfold Func.isWrapper; first | (rw [if_pos (by decide +kernel)]; kernel_rfl) | (rw [if_neg (by decide +kernel)]; exact ⟨rfl, rfl⟩))
    (fun os started H enc _ => lifted os started H enc)

theorem proved : Rows.FnExactGeneratorOfSaid := over
#print axioms proved
end Go.Proofs.Ytladcjoiaoaedaa.fnExactGeneratorOf
