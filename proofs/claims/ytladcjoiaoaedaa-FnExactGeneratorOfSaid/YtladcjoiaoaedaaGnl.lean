/-
  The law of GeneratorOf.
-/
import Derived.Test.YtladcjoiaoaedaaGni
import Derived.Test.YtladcjoiaoaedaaIsp
namespace Go.Proofs.Ytladcjoiaoaedaa
open Go.RowKit
attribute [local simp, local go_sem] past_cell past_frozen past_tape
set_option maxRecDepth 100000 in
set_option maxHeartbeats 8000000 in
theorem law_generatorOf (d e a b : Int) (w : World) (hd : I64 d) (_ : I64 e) (_ : I64 a) (_ : I64 b) :
    Calls Try.prog 9 #[.int .i64 d, .agg #[.int .i64 e, .int .i64 a, .int .i64 b]] w fun en w' => en = .returned (.bool true) ∧ Below w.heap.size w w' := by
  go_enter Try.func9, Try.ntmps9
  go_wp2_with (first | (go_at_call 20; refine (toIdeal_any _ _ _ _).mono ?_; rintro e w' ⟨rfl, hB⟩; obtain ⟨hC, hF⟩ := bcell hB; have hS := hB.size; (try simp at hS); (try have hSl := Nat.lt_of_succ_le hS); (try have hS0 : w.heap.size < w'.heap.size := by omega); (try have hS1 : w.heap.size + 1 < w'.heap.size := by omega); (try have hS2 : w.heap.size + 1 + 1 < w'.heap.size := by omega); (try have hS3 : w.heap.size + 1 + 1 + 1 < w'.heap.size := by omega)))
  refine (specGen_any d e a b _ hd).mono ?_
  rintro ea wa ⟨⟨x, y, ok, rfl, hg⟩, hBa⟩
  have hla : Below w.heap.size w wa := by repeat (first | with_reducible exact Below.refl _ _ | with_reducible assumption | ((with_reducible refine blA ?_ ?_); (focus (first | omega | (simp <;> omega)))) | (with_reducible refine blD ?_) | (with_reducible refine blN ?_) | ((with_reducible refine blS ?_ ?_); (focus (first | omega | (simp <;> omega)))) | ((with_reducible refine blT (by assumption) ?_ ?_); (focus (first | omega | (simp <;> omega)))))
  have hba := (((Blk.new w 31 #[.int .i64 e, .int .i64 a, .int .i64 b]).below hB).below hBa)
  have cba := hba.cell
  have lba := hba.lt
  clear hB hC hF hBa hba
  go_wp2_with (first | (go_at_call 20; refine (toIdeal_any _ _ _ _).mono ?_; rintro e w' ⟨rfl, hB⟩; obtain ⟨hC, hF⟩ := bcell hB; have hS := hB.size; (try simp at hS); (try have hSl := Nat.lt_of_succ_le hS); (try have hS0 : w.heap.size < w'.heap.size := by omega); (try have hS1 : w.heap.size + 1 < w'.heap.size := by omega); (try have hS2 : w.heap.size + 1 + 1 < w'.heap.size := by omega); (try have hS3 : w.heap.size + 1 + 1 + 1 < w'.heap.size := by omega)))
  refine (implGen_any d e a b _ hd).mono ?_
  rintro eb wb ⟨⟨x', y', ok', rfl, hg'⟩, hBb⟩
  obtain ⟨rfl, rfl, rfl⟩ := hg.unique hg'
  have hlb : Below w.heap.size w wb := by repeat (first | with_reducible exact Below.refl _ _ | with_reducible assumption | ((with_reducible refine blA ?_ ?_); (focus (first | omega | (simp <;> omega)))) | (with_reducible refine blD ?_) | (with_reducible refine blN ?_) | ((with_reducible refine blS ?_ ?_); (focus (first | omega | (simp <;> omega)))) | ((with_reducible refine blT (by assumption) ?_ ?_); (focus (first | omega | (simp <;> omega)))))
  clear hg hg' hBb hB hC hF hla cba lba
  go_wp2_with fail
  go_ret
  exact ⟨rfl, hlb⟩
end Go.Proofs.Ytladcjoiaoaedaa
