/-
  The statement of FnExactLatticeOf: for all arguments the law returns true, and nothing that was there has changed. No conditions.
-/
import Derived.Test.YtdeboabifcpdbaaFrame
import Derived.Test.YtdeboabifcpdbaaPtA
namespace Go.Proofs.Ytdeboabifcpdbaa.fnExactLatticeOf
open Go.ChangeShapes Go.WideShapes Go.ChangeAt Go.RowKit Go.Proofs.Ytdeboabifcpdbaa
open Go.ChangeMaps (open_string shut_string)
set_option linter.unusedVariables false


set_option maxRecDepth 100000 in
theorem lifted (os : Os) (started : os.Started) (H : Type) (enc : TypeId × Value → H) :
    ReturnsInHanded {} Try.checked os 14 .any (Rows.fnExactLatticeOfSpec.pre6 enc Try.prog Try.f14 Rows.fnExactLatticeOfRow.domain false) (Rows.fnExactLatticeOfSpec.post enc Try.prog Try.f14 false true false false) := by
  refine returnsInHanded_of_change (C := Try.checked) own started (by kernel_rfl) Try.func14
    (ChangeSpec.witness6 (enc := enc) (C := Try.checked) false ⟨#[], #[.slice none 0 0], []⟩ 8 (by kernel_rfl) (by kernel_rfl) (by kernel_rfl) (by kernel_rfl)) ?_
  intro W base args ds gs before hval0 hW hcnd hsz
  have hval : ∀ (j : Nat) t v, Try.f14.params[j]? = some t → args[j]? = some v → Value.okWide Try.prog W .any base t v := hval0
  have hW' := hW
  obtain ⟨p, q, hA0, hV, rfl, hfz, hnd⟩ := hW
  have hA : DataW.TrodAll enc Try.prog W 0 (fun _ => true) true Try.f14.params.toList args.toList ds p := hA0
  rw [Try.params14] at hA hval
  obtain ⟨v0, vs0, d0, ds0, p0, q0, hargs, rfl, rfl, h0, r0⟩ := trodAll_cons hA
  obtain ⟨rfl, rfl, rfl⟩ := trodAll_nil r0
  obtain rfl : args = #[v0] := by cases args; simp_all
  obtain ⟨rfl, rfl⟩ := trodVars_none hV
  obtain ⟨a0, len0, cap0, rfl⟩ := okWide_slice Try.underlying66 (hval 0 66 v0 rfl rfl)
  have k0 := h0
  have lt0 : ∀ x ∈ p0, x.block < W.heap.size := by obtain ⟨m, hm⟩ := k0; exact DataW.trod_lt m _ _ _ hm
  obtain ⟨lc0, cm0, z0, w0, b0⟩ : len0 ≤ cap0 ∧ cap0 ≤ maxLen ∧ ∃ zs, PArg W a0 len0 zs ∧ ∀ g ∈ zs, I64 g.1 ∧ I64 g.2 := by
    obtain ⟨fuel, hf⟩ := h0
    exact points_arg hf
  clear hA0 hval0
  refine (law_latticeOf a0 len0 cap0 z0 W w0 lc0 (by unfold maxLen at cm0; omega) b0).mono fun e W' ⟨he, bel⟩ => ?_
  subst he
  exact ⟨_, rfl, _, _, _, [], _, [], hW', trodAll_mk1 (shut_bool Try.underlying4 _), (trodAll_cons_mk (Below.trod laidOut (by kernel_rfl) (of_decide_eq_true (by kernel_rfl)) k0 bel lt0) trodAll_mk0), rfl, bel.frame _, fun h => by cases h⟩

theorem funcNo : Try.prog.funcNamed Rows.fnExactLatticeOfRow.func = some 14 := by kernel_rfl
theorem closed : joinedFacts Try.prog 14 Try.f14 Rows.fnExactLatticeOfSpec Rows.fnExactLatticeOfRow = true := by
  unfold joinedFacts
  rw [mayFact, liftsFact, makeFact, mapsFact, laidFact]
  kernel_rfl
theorem over : Rows.fnExactLatticeOfRow.holds Try.pinned (OpenSpec.ofChange Rows.fnExactLatticeOfSpec) :=
  OpenClaim.holds_of_wide 14 Try.f14 rfl rfl rfl rfl rfl rfl rfl ⟨rfl, rfl, rfl, rfl, rfl⟩ rfl rfl rfl rfl rfl funcNo Try.func14 closed
    (of_decide_eq_true (by kernel_rfl)) (by unfold Func.isWrapper; first | (rw [if_pos (by decide +kernel)]; kernel_rfl) | (rw [if_neg (by decide +kernel)]; exact ⟨rfl, rfl⟩))
    (fun os started H enc _ => lifted os started H enc)

theorem proved : Rows.FnExactLatticeOfSaid := over
#print axioms proved
end Go.Proofs.Ytdeboabifcpdbaa.fnExactLatticeOf
