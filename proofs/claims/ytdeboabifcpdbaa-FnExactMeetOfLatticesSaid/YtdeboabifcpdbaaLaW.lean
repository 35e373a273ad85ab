/-
  The lattice of some vectors: the program's way and the reference's.
-/
import Derived.Test.YtdeboabifcpdbaaLaF
import Derived.Test.YtdeboabifcpdbaaApp
namespace Go.Proofs.Ytdeboabifcpdbaa
open Go.RowKit
attribute [local simp, local go_sem] past_cell past_frozen past_tape
def iz (p : Bool) (x : Int) : Int := if p then x else 0
theorem validLattice_any (a b d : Int) (w : World) :
    Calls Try.prog 79 #[.agg #[.int .i64 a, .int .i64 b, .int .i64 d]] w fun en w' => en = .returned (.tuple #[.agg #[.int .i64 (iz (latB a b d) a), .int .i64 (iz (latB a b d) b), .int .i64 (iz (latB a b d) d)], .bool (latB a b d)]) ∧ Below w.heap.size w w' := by
  by_cases c : latB a b d = true
  · go_enter Try.func79, Try.ntmps79
    go_wp2_with (go_at_call 55; refine (isLattice_any _ _ _ _).mono ?_; rintro e w' ⟨rfl, hB⟩; obtain ⟨hC, hF⟩ := bcell hB; have hS := hB.size; (try simp at hS); (try have hSl := Nat.lt_of_succ_le hS); (try have hS0 : w.heap.size < w'.heap.size := by omega); (try have hS1 : w.heap.size + 1 < w'.heap.size := by omega); (try have hS2 : w.heap.size + 1 + 1 < w'.heap.size := by omega); (try have hS3 : w.heap.size + 1 + 1 + 1 < w'.heap.size := by omega))
    (refine bodyPost_ret (v := .tuple #[.agg #[.int .i64 a, .int .i64 b, .int .i64 d], .bool true]) ?_ rfl ⟨?_, ?_⟩; (focus (go_light; first | (simp [results, Try.results79, go_sem, *]; done) | (simp (disch := first | omega | (simp <;> omega) | (refine isSome_of ?_ ?_; (focus ((repeat (first | ((with_reducible refine (cell_alloc_old _ _ _ _ ?_).trans ?_); (focus (first | omega | (simp <;> omega)))) | ((with_reducible refine (bG (by assumption) ?_).trans ?_); (focus (first | omega | (simp <;> omega)))))); exact rfl)); simp [go_sem]) | fail) [results, Try.results79, go_sem, *]; done))); (focus (go_light; rw [c]; rfl)); repeat (first | with_reducible exact Below.refl _ _ | with_reducible assumption | ((with_reducible refine blA ?_ ?_); (focus (first | omega | (simp <;> omega)))) | (with_reducible refine blD ?_) | (with_reducible refine blN ?_) | ((with_reducible refine blS ?_ ?_); (focus (first | omega | (simp <;> omega)))) | ((with_reducible refine blT (by assumption) ?_ ?_); (focus (first | omega | (simp <;> omega))))))
  · have c' : latB a b d = false := by simpa using c
    clear c
    go_enter Try.func79, Try.ntmps79
    go_wp2_with (go_at_call 55; refine (isLattice_any _ _ _ _).mono ?_; rintro e w' ⟨rfl, hB⟩; obtain ⟨hC, hF⟩ := bcell hB; have hS := hB.size; (try simp at hS); (try have hSl := Nat.lt_of_succ_le hS); (try have hS0 : w.heap.size < w'.heap.size := by omega); (try have hS1 : w.heap.size + 1 < w'.heap.size := by omega); (try have hS2 : w.heap.size + 1 + 1 < w'.heap.size := by omega); (try have hS3 : w.heap.size + 1 + 1 + 1 < w'.heap.size := by omega))
    (refine bodyPost_ret (v := .tuple #[.agg #[.int .i64 0, .int .i64 0, .int .i64 0], .bool false]) ?_ rfl ⟨?_, ?_⟩; (focus (go_light; first | (simp [results, Try.results79, go_sem, *]; done) | (simp (disch := first | omega | (simp <;> omega) | (refine isSome_of ?_ ?_; (focus ((repeat (first | ((with_reducible refine (cell_alloc_old _ _ _ _ ?_).trans ?_); (focus (first | omega | (simp <;> omega)))) | ((with_reducible refine (bG (by assumption) ?_).trans ?_); (focus (first | omega | (simp <;> omega)))))); exact rfl)); simp [go_sem]) | fail) [results, Try.results79, go_sem, *]; done))); (focus (go_light; rw [c']; rfl)); repeat (first | with_reducible exact Below.refl _ _ | with_reducible assumption | ((with_reducible refine blA ?_ ?_); (focus (first | omega | (simp <;> omega)))) | (with_reducible refine blD ?_) | (with_reducible refine blN ?_) | ((with_reducible refine blS ?_ ?_); (focus (first | omega | (simp <;> omega)))) | ((with_reducible refine blT (by assumption) ?_ ?_); (focus (first | omega | (simp <;> omega))))))
def laOk (l : List (Int × Int)) : Bool := latB (lT l).1 (lT l).2.1 (lT l).2.2
theorem la_out {l : List (Int × Int)} (h : Small l) (hz : (lS l).1 = 0 ∨ (lS l).2.2 = 0) : laOk l = false := by
  obtain ⟨e1, _, e3⟩ := l_same h
  unfold laOk latB
  refine decide_eq_false fun ⟨h1, _, h3, _⟩ => ?_
  rcases hz with hz | hz
  · omega
  · have := e3 hz; omega
set_option maxRecDepth 100000 in
theorem latticeOf_any {l : List (Int × Int)} (h : Small l) (g c : Nat) (w : World) (hl : l.length ≤ 1000) (hg : g < w.heap.size) (hc : ∀ k, k < l.length → w.cell? ⟨g, k * 2, none⟩ = some (.int .i64 ((l.getD k (0, 0)).1)) ∧ w.cell? ⟨g, k * 2 + 1, none⟩ = some (.int .i64 ((l.getD k (0, 0)).2))) :
    Calls Try.prog 82 #[.slice (some ⟨g, 0, none⟩) l.length c] w fun en w' => en = .returned (.tuple #[.agg #[.int .i64 (iz (laOk l) (lT l).1), .int .i64 (iz (laOk l) (lT l).2.1), .int .i64 (iz (laOk l) (lT l).2.2)], .bool (laOk l)]) ∧ Below w.heap.size w w' := by
  have hcall : Hid (∀ w1, Below w.heap.size w w1 → Calls Try.prog 97 #[.slice (some ⟨g, 0, none⟩) l.length c] w1 fun en w' => en = .returned (.tuple #[.int .i64 (hR1 (lS l).1 (lS l).2.2), .int .i64 (hR2 (lS l).1 (lS l).2.1 (lS l).2.2), .int .i64 (hR3 (lS l).1 (lS l).2.2), .bool (hRok (lS l).1 (lS l).2.2)]) ∧ Below w1.heap.size w1 w') := fun w1 hB =>
    hermite_any l g c w1 hl (by have := hB.size; omega) (fun k hk => by rw [bG hB hg, bG hB hg]; exact hc k hk) (fitH h)
  clear hc
  by_cases hz : (lS l).1 = 0 ∨ (lS l).2.2 = 0
  · have hs := Lib.hid (la_out h hz)
    have hR : hRok (lS l).1 (lS l).2.2 = false := by
      unfold hRok
      rcases hz with hz | hz <;> simp [hz]
    clear hz
    go_enter Try.func82, Try.ntmps82
    go_wp2_with fail
    refine (hcall.out _ ((Below.refl _ _).alloc (Nat.le_refl _) _)).mono ?_
    rintro e1 wa ⟨rfl, hBa⟩
    have hSa := hBa.size
    simp at hSa
    have hRa : ∀ o, wa.cell? ⟨w.heap.size, o, none⟩ = (#[.int .i64 0, .int .i64 0, .int .i64 0] : Array Value)[o]? := by (intro o; (repeat (first | ((with_reducible refine (cell_alloc_old _ _ _ _ ?_).trans ?_); (focus (first | omega | (simp <;> omega)))) | ((with_reducible refine (bC (by assumption) ?_).trans ?_); (focus (first | omega | (simp <;> omega)))) | ((with_reducible refine (bG (by assumption) ?_).trans ?_); (focus (first | omega | (simp <;> omega)))))); simp [go_sem])
    have hFa : ∀ o, wa.frozen? ⟨w.heap.size, o, none⟩ = false := by (intro o; (repeat (first | ((with_reducible refine (frozen_alloc_old _ _ _ _ ?_).trans ?_); (focus (first | omega | (simp <;> omega)))) | ((with_reducible refine (fG (by assumption) ?_).trans ?_); (focus (first | omega | (simp <;> omega)))))); simp [go_sem])
    go_wp2
    refine bodyPost_ret (v := .tuple #[.agg #[.int .i64 0, .int .i64 0, .int .i64 0], .bool false]) (by go_light; (try clear hC14); (try clear hF14); (try clear hB14); (try clear hC13); (try clear hF13); (try clear hB13); (try clear hC12); (try clear hF12); (try clear hB12); (try clear hC11); (try clear hF11); (try clear hB11); (try clear hC10); (try clear hF10); (try clear hB10); (try clear hC9); (try clear hF9); (try clear hB9); (try clear hC8); (try clear hF8); (try clear hB8); (try clear hC7); (try clear hF7); (try clear hB7); (try clear hC6); (try clear hF6); (try clear hB6); (try clear hC5); (try clear hF5); (try clear hB5); (try clear hC4); (try clear hF4); (try clear hB4); (try clear hC3); (try clear hF3); (try clear hB3); (try clear hC2); (try clear hF2); (try clear hB2); (try clear hC1); (try clear hF1); (try clear hB1); simp [results, Try.results82, go_sem, hRa]) rfl ⟨by go_light; rw [hs.out]; rfl, ?_⟩
    repeat (first | with_reducible exact Below.refl _ _ | with_reducible assumption | ((with_reducible refine blA ?_ ?_); (focus (first | omega | (simp <;> omega)))) | (with_reducible refine blD ?_) | (with_reducible refine blN ?_) | ((with_reducible refine blS ?_ ?_); (focus (first | omega | (simp <;> omega)))) | ((with_reducible refine blT (by assumption) ?_ ?_); (focus (first | omega | (simp <;> omega)))))
  · have ha : (lS l).1 ≠ 0 := fun e => hz (Or.inl e)
    have hd : (lS l).2.2 ≠ 0 := fun e => hz (Or.inr e)
    obtain ⟨e1, e2, _⟩ := l_same h
    obtain ⟨e3, e4⟩ := e2 ha hd
    have q1 : hR1 (lS l).1 (lS l).2.2 = (lT l).1 := by simp [hR1, ha, hd, e1]
    have q2 : hR2 (lS l).1 (lS l).2.1 (lS l).2.2 = (lT l).2.1 := by rw [e3]; simp [hR2, bN, ha, hd]
    have q3 : hR3 (lS l).1 (lS l).2.2 = (lT l).2.2 := by rw [e4]; unfold hR3; rw [if_neg (by omega)]; split <;> omega
    have q4 : hRok (lS l).1 (lS l).2.2 = true := by simp [hRok, ha, hd]
    rw [q1, q2, q3, q4] at hcall
    have hs : Hid (laOk l = latB (lT l).1 (lT l).2.1 (lT l).2.2) := rfl
    clear hz ha hd e1 e2 e3 e4 q1 q2 q3 q4
    go_enter Try.func82, Try.ntmps82
    go_wp2_with fail
    refine (hcall.out _ ((Below.refl _ _).alloc (Nat.le_refl _) _)).mono ?_
    rintro e1 wa ⟨rfl, hBa⟩
    have hSa := hBa.size
    simp at hSa
    have hRa : ∀ o, wa.cell? ⟨w.heap.size, o, none⟩ = (#[.int .i64 0, .int .i64 0, .int .i64 0] : Array Value)[o]? := by (intro o; (repeat (first | ((with_reducible refine (cell_alloc_old _ _ _ _ ?_).trans ?_); (focus (first | omega | (simp <;> omega)))) | ((with_reducible refine (bC (by assumption) ?_).trans ?_); (focus (first | omega | (simp <;> omega)))) | ((with_reducible refine (bG (by assumption) ?_).trans ?_); (focus (first | omega | (simp <;> omega)))))); simp [go_sem])
    have hFa : ∀ o, wa.frozen? ⟨w.heap.size, o, none⟩ = false := by (intro o; (repeat (first | ((with_reducible refine (frozen_alloc_old _ _ _ _ ?_).trans ?_); (focus (first | omega | (simp <;> omega)))) | ((with_reducible refine (fG (by assumption) ?_).trans ?_); (focus (first | omega | (simp <;> omega)))))); simp [go_sem])
    have hz0 : w.heap.size < wa.heap.size := by omega
    go_wp2_with fail
    refine (validLattice_any _ _ _ _).mono ?_
    rintro e2 wb ⟨rfl, hBb⟩
    have hSb := hBb.size
    have hRb : ∀ o, wb.cell? ⟨w.heap.size, o, none⟩ = (#[.int .i64 0, .int .i64 0, .int .i64 0] : Array Value)[o]? := by (intro o; (repeat (first | ((with_reducible refine (cell_alloc_old _ _ _ _ ?_).trans ?_); (focus (first | omega | (simp <;> omega)))) | ((with_reducible refine (bC (by assumption) ?_).trans ?_); (focus (first | omega | (simp <;> omega)))) | ((with_reducible refine (bG (by assumption) ?_).trans ?_); (focus (first | omega | (simp <;> omega)))))); simp [go_sem])
    have hFb : ∀ o, wb.frozen? ⟨w.heap.size, o, none⟩ = false := by (intro o; (repeat (first | ((with_reducible refine (frozen_alloc_old _ _ _ _ ?_).trans ?_); (focus (first | omega | (simp <;> omega)))) | ((with_reducible refine (fG (by assumption) ?_).trans ?_); (focus (first | omega | (simp <;> omega)))))); simp [go_sem])
    have hBW : Below w.heap.size w wb := by repeat (first | with_reducible exact Below.refl _ _ | with_reducible assumption | ((with_reducible refine blA ?_ ?_); (focus (first | omega | (simp <;> omega)))) | (with_reducible refine blD ?_) | (with_reducible refine blN ?_) | ((with_reducible refine blS ?_ ?_); (focus (first | omega | (simp <;> omega)))) | ((with_reducible refine blT (by assumption) ?_ ?_); (focus (first | omega | (simp <;> omega)))))
    clear hBb hBa
    go_wp2
    refine bodyPost_ret (v := .tuple #[.agg #[.int .i64 (iz (latB (lT l).1 (lT l).2.1 (lT l).2.2) (lT l).1), .int .i64 (iz (latB (lT l).1 (lT l).2.1 (lT l).2.2) (lT l).2.1), .int .i64 (iz (latB (lT l).1 (lT l).2.1 (lT l).2.2) (lT l).2.2)], .bool (latB (lT l).1 (lT l).2.1 (lT l).2.2)]) (by go_light; (try clear hC14); (try clear hF14); (try clear hB14); (try clear hC13); (try clear hF13); (try clear hB13); (try clear hC12); (try clear hF12); (try clear hB12); (try clear hC11); (try clear hF11); (try clear hB11); (try clear hC10); (try clear hF10); (try clear hB10); (try clear hC9); (try clear hF9); (try clear hB9); (try clear hC8); (try clear hF8); (try clear hB8); (try clear hC7); (try clear hF7); (try clear hB7); (try clear hC6); (try clear hF6); (try clear hB6); (try clear hC5); (try clear hF5); (try clear hB5); (try clear hC4); (try clear hF4); (try clear hB4); (try clear hC3); (try clear hF3); (try clear hB3); (try clear hC2); (try clear hF2); (try clear hB2); (try clear hC1); (try clear hF1); (try clear hB1); simp [results, Try.results82, go_sem, hRb]) rfl ⟨by go_light; rw [hs.out], ?_⟩
    repeat (first | with_reducible exact Below.refl _ _ | with_reducible assumption | ((with_reducible refine blA ?_ ?_); (focus (first | omega | (simp <;> omega)))) | (with_reducible refine blD ?_) | (with_reducible refine blN ?_) | ((with_reducible refine blS ?_ ?_); (focus (first | omega | (simp <;> omega)))) | ((with_reducible refine blT (by assumption) ?_ ?_); (focus (first | omega | (simp <;> omega)))))
end Go.Proofs.Ytdeboabifcpdbaa
