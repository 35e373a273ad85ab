/-
  An ideal that contains another one: ContainsIdeal, and the walk of its law.
-/
import Derived.Test.YtahhbjjnbdggjaaIdealH
namespace Go.Proofs.Ytahhbjjnbdggjaa
open Go.RowKit
attribute [local simp, local go_sem] past_cell past_frozen past_tape
theorem areIdeals_any (d e a b e' a' b' : Int) (w : World) (hd : I64 d) :
    Calls Try.prog 41 #[.int .i64 d, .agg #[.int .i64 e, .int .i64 a, .int .i64 b], .agg #[.int .i64 e', .int .i64 a', .int .i64 b']] w fun en w' => en = .returned (.bool (idB d e a b && idB d e' a' b')) ∧ Below w.heap.size w w' := by
  go_enter Try.func41, Try.ntmps41
  go_wp2_with (go_at_call 34; refine (isIdeal_any _ _ _ _ _ hd).mono ?_; rintro e w' ⟨rfl, hB⟩; obtain ⟨hC, hF⟩ := bcell hB; have hS := hB.size; (try simp at hS); (try have hSl := Nat.lt_of_succ_le hS); (try have hS0 : w.heap.size < w'.heap.size := by omega); (try have hS1 : w.heap.size + 1 < w'.heap.size := by omega); (try have hS2 : w.heap.size + 1 + 1 < w'.heap.size := by omega); (try have hS3 : w.heap.size + 1 + 1 + 1 < w'.heap.size := by omega))
  all_goals
    go_ret
    refine ⟨ret_bool ?_, ?_⟩
    · go_light; simp [*]
    · repeat (first | with_reducible exact Below.refl _ _ | with_reducible assumption | ((with_reducible refine blA ?_ ?_); (focus (first | omega | (simp <;> omega)))) | (with_reducible refine blD ?_) | (with_reducible refine blN ?_) | ((with_reducible refine blS ?_ ?_); (focus (first | omega | (simp <;> omega)))) | ((with_reducible refine blT (by assumption) ?_ ?_); (focus (first | omega | (simp <;> omega)))))
theorem ib_facts {d e a b : Int} (h : idB d e a b = true) : Bd 200000000 (2 * e * a) ∧ Bd 200000000 (-e * b) ∧ 1 ≤ e ∧ e ≤ 10000 := by
  obtain ⟨h0, h1, h2, h3, h4, h5, h6, h7⟩ := idB_true h
  exact ⟨mul_bd (show Bd 20000 (2 * e) from ⟨by omega, by omega⟩) (show Bd 10000 a from ⟨by omega, by omega⟩) (by decide), mul_bd (show Bd 10000 (-e) from ⟨by omega, by omega⟩) (show Bd 20000 b from ⟨by omega, by omega⟩) (by decide), h1, h2⟩
def BasisPost (w : World) (T : TypeId) (e a b : Int) (en : Ending) (w' : World) : Prop := ∃ w1, Below w.heap.size w w1 ∧ en = .returned (.slice (some ⟨w1.heap.size, 0, none⟩) 2 2) ∧ w1.alloc (.cells #[.int .i64 (2 * e * a), .int .i64 0, .int .i64 (-e * b), .int .i64 e] T) = w'
theorem basis_any (d e a b : Int) (w : World) (h : idB d e a b = true) :
    Calls Try.prog 42 #[.agg #[.int .i64 e, .int .i64 a, .int .i64 b]] w (BasisPost w 64 e a b) := by
  obtain ⟨⟨m1, m2⟩, ⟨m3, m4⟩, m5, m6⟩ := ib_facts h
  go_enter Try.func42, Try.ntmps42
  go_wp2
  go_ret
  refine ⟨w.alloc (.cells #[.int .i64 e, .int .i64 a, .int .i64 b] 28), ?_, by simp, rfl⟩
  repeat (first | with_reducible exact Below.refl _ _ | with_reducible assumption | ((with_reducible refine blA ?_ ?_); (focus (first | omega | (simp <;> omega)))) | (with_reducible refine blD ?_) | (with_reducible refine blN ?_) | ((with_reducible refine blS ?_ ?_); (focus (first | omega | (simp <;> omega)))) | ((with_reducible refine blT (by assumption) ?_ ?_); (focus (first | omega | (simp <;> omega)))))
theorem idBasis_any (d e a b : Int) (w : World) (h : idB d e a b = true) :
    Calls Try.prog 40 #[.agg #[.int .i64 e, .int .i64 a, .int .i64 b]] w (BasisPost w 59 e a b) := by
  obtain ⟨⟨m1, m2⟩, ⟨m3, m4⟩, m5, m6⟩ := ib_facts h
  go_enter Try.func40, Try.ntmps40
  go_wp2
  go_ret
  refine ⟨w.alloc (.cells #[.int .i64 e, .int .i64 a, .int .i64 b] 28), ?_, by simp, rfl⟩
  repeat (first | with_reducible exact Below.refl _ _ | with_reducible assumption | ((with_reducible refine blA ?_ ?_); (focus (first | omega | (simp <;> omega)))) | (with_reducible refine blD ?_) | (with_reducible refine blN ?_) | ((with_reducible refine blS ?_ ?_); (focus (first | omega | (simp <;> omega)))) | ((with_reducible refine blT (by assumption) ?_ ?_); (focus (first | omega | (simp <;> omega)))))
def ciB (d e a b e' a' b' : Int) : Bool := (idB d e a b && idB d e' a' b') && (ihB e a b (2 * e' * a') 0 && ihB e a b (-e' * b') e')
theorem ci_G9 {d e' a' b' : Int} (h : idB d e' a' b' = true) : G9 (2 * e' * a') ∧ G9 0 ∧ G9 (-e' * b') ∧ G9 e' := by
  obtain ⟨⟨m1, m2⟩, ⟨m3, m4⟩, m5, m6⟩ := ib_facts h
  exact ⟨⟨by omega, by omega⟩, ⟨by omega, by omega⟩, ⟨by omega, by omega⟩, ⟨by omega, by omega⟩⟩
set_option maxRecDepth 100000 in
set_option maxHeartbeats 4000000 in
theorem implContainsIdeal_any (d e a b e' a' b' : Int) (w : World) (hd : I64 d) :
    Calls Try.prog 18 #[.int .i64 d, .agg #[.int .i64 e, .int .i64 a, .int .i64 b], .agg #[.int .i64 e', .int .i64 a', .int .i64 b']] w fun en w' => en = .returned (.tuple #[.bool (ciB d e a b e' a' b'), .bool (idB d e a b && idB d e' a' b')]) ∧ Below w.heap.size w w' := by
  by_cases c1 : idB d e a b = true
  · by_cases c2 : idB d e' a' b' = true
    · obtain ⟨g1, g2, g3, g4⟩ := ci_G9 c2
      have hs : Hid (ciB d e a b e' a' b' = (ihB e a b (2 * e' * a') 0 && ihB e a b (-e' * b') e')) := by show _ = _; simp [ciB, c1, c2]
      go_enter Try.func18, Try.ntmps18
      go_wp2_with ((go_at_call 41; refine (areIdeals_any _ _ _ _ _ _ _ _ hd).mono ?_; rintro e w' ⟨rfl, hB⟩; obtain ⟨hC, hF⟩ := bcell hB; have hS := hB.size; (try simp at hS); (try have hSl := Nat.lt_of_succ_le hS); (try have hS0 : w.heap.size < w'.heap.size := by omega); (try have hS1 : w.heap.size + 1 < w'.heap.size := by omega); (try have hS2 : w.heap.size + 1 + 1 < w'.heap.size := by omega); (try have hS3 : w.heap.size + 1 + 1 + 1 < w'.heap.size := by omega)))
      refine (basis_any _ _ _ _ _ c2).mono ?_
      rintro e1 w' ⟨w1, hB1, rfl, rfl⟩
      have hS1 := hB1.size
      (try simp at hS1)
      have hx1 : ∀ o, w1.cell? ⟨w.heap.size, o, none⟩ = (#[.int .i64 e, .int .i64 a, .int .i64 b] : Array Value)[o]? := fun o => by
        rw [bG hB1 (by first | omega | (simp <;> omega))]
        (repeat (first | ((with_reducible refine (cell_alloc_old _ _ _ _ ?_).trans ?_); (focus (first | omega | (simp <;> omega)))) | ((with_reducible refine (bG (by assumption) ?_).trans ?_); (focus (first | omega | (simp <;> omega))))))
        simp [go_sem]
      have HB1 := Lib.hid hB1
      clear hB1
      go_wp2
      go_loopw [18] (fun i wr => ∃ k : Nat, k ≤ 2 ∧ i = .int .i64 k ∧ Hid ((1 ≤ k → ihB e a b (2 * e' * a') 0 = true) ∧ (2 ≤ k → ihB e a b (-e' * b') e' = true)) ∧ Hid (Below (w1.heap.size + 1) (w1.alloc (.cells #[.int .i64 (2 * e' * a'), .int .i64 0, .int .i64 (-e' * b'), .int .i64 e'] 64)) wr)) (fun i _ => 2 - (intOf i).toNat)
      case atStart => exact ⟨0, by omega, rfl, ⟨by omega, by omega⟩, Below.refl _ _⟩
      case round =>
        obtain ⟨k, hk, rfl, G, HBr⟩ := hrel
        have hSr := HBr.out.size
        simp at hSr
        have m1 : w.heap.size < wr.heap.size := by omega
        have m2 : w1.heap.size < wr.heap.size := by omega
        have hcr : ∀ o, wr.cell? ⟨w1.heap.size, o, none⟩ = (#[.int .i64 (2 * e' * a'), .int .i64 0, .int .i64 (-e' * b'), .int .i64 e'] : Array Value)[o]? := fun o => by rw [bG HBr.out (by omega)]; simp [go_sem]
        have hxr : ∀ o, wr.cell? ⟨w.heap.size, o, none⟩ = (#[.int .i64 e, .int .i64 a, .int .i64 b] : Array Value)[o]? := fun o => by rw [bG HBr.out (by omega), cell_alloc_old _ _ _ _ (by omega), hx1]
        by_cases k0 : k = 0
        · subst k0
          by_cases hc : ihB e a b (2 * e' * a') 0 = true
          all_goals
            go_wp2_with (go_at_call 39; refine (ihas_any _ _ _ _ _ _ _ c1 g1 g2).mono ?_; rintro e w' ⟨rfl, hB⟩; obtain ⟨hC, hF⟩ := bcell hB; have hS := hB.size; (try simp at hS); (try have hSl := Nat.lt_of_succ_le hS); (try have hS0 : w.heap.size < w'.heap.size := by omega); (try have hS1 : w.heap.size + 1 < w'.heap.size := by omega); (try have hS2 : w.heap.size + 1 + 1 < w'.heap.size := by omega); (try have hS3 : w.heap.size + 1 + 1 + 1 < w'.heap.size := by omega))
            first
              | (go_roundw
                 case rel =>
                   go_light
                   obtain ⟨q1, q2⟩ := G.out
                   refine ⟨1, by omega, rfl, ⟨fun _ => by first | assumption | exact q1 (by omega), fun _ => by first | assumption | omega⟩, ?_⟩
                   have hBr := HBr.out
                   show Below _ _ _
                   repeat (first | with_reducible exact Below.refl _ _ | with_reducible assumption | ((with_reducible refine blA ?_ ?_); (focus (first | omega | (simp <;> omega)))) | (with_reducible refine blD ?_) | (with_reducible refine blN ?_) | ((with_reducible refine blS ?_ ?_); (focus (first | omega | (simp <;> omega)))) | ((with_reducible refine blT (by assumption) ?_ ?_); (focus (first | omega | (simp <;> omega)))))
                 case measure => simp [intOf])
              | (go_ret2
                 refine ⟨ret_bb ?_ ?_, ?_⟩
                 · go_light
                   rw [hs.out]
                   simp [hc]
                 · go_light; rw [c1, c2]; rfl
                 · have hBr := HBr.out
                   have hB1 := HB1.out
                   repeat (first | with_reducible exact Below.refl _ _ | with_reducible assumption | ((with_reducible refine blA ?_ ?_); (focus (first | omega | (simp <;> omega)))) | (with_reducible refine blD ?_) | (with_reducible refine blN ?_) | ((with_reducible refine blS ?_ ?_); (focus (first | omega | (simp <;> omega)))) | ((with_reducible refine blT (by assumption) ?_ ?_); (focus (first | omega | (simp <;> omega))))))
        by_cases k1 : k = 1
        · subst k1
          by_cases hc : ihB e a b (-e' * b') e' = true
          all_goals
            go_wp2_with (go_at_call 39; refine (ihas_any _ _ _ _ _ _ _ c1 g3 g4).mono ?_; rintro e w' ⟨rfl, hB⟩; obtain ⟨hC, hF⟩ := bcell hB; have hS := hB.size; (try simp at hS); (try have hSl := Nat.lt_of_succ_le hS); (try have hS0 : w.heap.size < w'.heap.size := by omega); (try have hS1 : w.heap.size + 1 < w'.heap.size := by omega); (try have hS2 : w.heap.size + 1 + 1 < w'.heap.size := by omega); (try have hS3 : w.heap.size + 1 + 1 + 1 < w'.heap.size := by omega))
            first
              | (go_roundw
                 case rel =>
                   go_light
                   obtain ⟨q1, q2⟩ := G.out
                   refine ⟨2, by omega, rfl, ⟨fun _ => by first | assumption | exact q1 (by omega), fun _ => by first | assumption | omega⟩, ?_⟩
                   have hBr := HBr.out
                   show Below _ _ _
                   repeat (first | with_reducible exact Below.refl _ _ | with_reducible assumption | ((with_reducible refine blA ?_ ?_); (focus (first | omega | (simp <;> omega)))) | (with_reducible refine blD ?_) | (with_reducible refine blN ?_) | ((with_reducible refine blS ?_ ?_); (focus (first | omega | (simp <;> omega)))) | ((with_reducible refine blT (by assumption) ?_ ?_); (focus (first | omega | (simp <;> omega)))))
                 case measure => simp [intOf])
              | (go_ret2
                 refine ⟨ret_bb ?_ ?_, ?_⟩
                 · go_light
                   rw [hs.out]
                   simp [hc]
                 · go_light; rw [c1, c2]; rfl
                 · have hBr := HBr.out
                   have hB1 := HB1.out
                   repeat (first | with_reducible exact Below.refl _ _ | with_reducible assumption | ((with_reducible refine blA ?_ ?_); (focus (first | omega | (simp <;> omega)))) | (with_reducible refine blD ?_) | (with_reducible refine blN ?_) | ((with_reducible refine blS ?_ ?_); (focus (first | omega | (simp <;> omega)))) | ((with_reducible refine blT (by assumption) ?_ ?_); (focus (first | omega | (simp <;> omega))))))
        have hk : k = 2 := by omega
        subst hk
        go_wp2
        go_ret2
        refine ⟨ret_bb ?_ ?_, ?_⟩
        · go_light
          obtain ⟨g1, g2⟩ := G.out
          rw [hs.out]
          simp [g1, g2]
        · go_light; rw [c1, c2]; rfl
        · have hBr := HBr.out
          have hB1 := HB1.out
          repeat (first | with_reducible exact Below.refl _ _ | with_reducible assumption | ((with_reducible refine blA ?_ ?_); (focus (first | omega | (simp <;> omega)))) | (with_reducible refine blD ?_) | (with_reducible refine blN ?_) | ((with_reducible refine blS ?_ ?_); (focus (first | omega | (simp <;> omega)))) | ((with_reducible refine blT (by assumption) ?_ ?_); (focus (first | omega | (simp <;> omega)))))
    · have c2' : idB d e' a' b' = false := by simpa using c2
      have hs : Hid (ciB d e a b e' a' b' = false) := by show _ = _; simp [ciB, c2']
      clear c2
      go_enter Try.func18, Try.ntmps18
      go_wp2_with ((go_at_call 41; refine (areIdeals_any _ _ _ _ _ _ _ _ hd).mono ?_; rintro e w' ⟨rfl, hB⟩; obtain ⟨hC, hF⟩ := bcell hB; have hS := hB.size; (try simp at hS); (try have hSl := Nat.lt_of_succ_le hS); (try have hS0 : w.heap.size < w'.heap.size := by omega); (try have hS1 : w.heap.size + 1 < w'.heap.size := by omega); (try have hS2 : w.heap.size + 1 + 1 < w'.heap.size := by omega); (try have hS3 : w.heap.size + 1 + 1 + 1 < w'.heap.size := by omega)))
      go_ret2
      refine ⟨ret_bb (by go_light; rw [hs.out]) (by go_light; rw [c1, c2']; rfl), ?_⟩
      repeat (first | with_reducible exact Below.refl _ _ | with_reducible assumption | ((with_reducible refine blA ?_ ?_); (focus (first | omega | (simp <;> omega)))) | (with_reducible refine blD ?_) | (with_reducible refine blN ?_) | ((with_reducible refine blS ?_ ?_); (focus (first | omega | (simp <;> omega)))) | ((with_reducible refine blT (by assumption) ?_ ?_); (focus (first | omega | (simp <;> omega)))))
  · have c1' : idB d e a b = false := by simpa using c1
    have hs : Hid (ciB d e a b e' a' b' = false) := by show _ = _; simp [ciB, c1']
    clear c1
    go_enter Try.func18, Try.ntmps18
    go_wp2_with ((go_at_call 41; refine (areIdeals_any _ _ _ _ _ _ _ _ hd).mono ?_; rintro e w' ⟨rfl, hB⟩; obtain ⟨hC, hF⟩ := bcell hB; have hS := hB.size; (try simp at hS); (try have hSl := Nat.lt_of_succ_le hS); (try have hS0 : w.heap.size < w'.heap.size := by omega); (try have hS1 : w.heap.size + 1 < w'.heap.size := by omega); (try have hS2 : w.heap.size + 1 + 1 < w'.heap.size := by omega); (try have hS3 : w.heap.size + 1 + 1 + 1 < w'.heap.size := by omega)))
    go_ret2
    refine ⟨ret_bb (by go_light; rw [hs.out]) (by go_light; rw [c1']; rfl), ?_⟩
    repeat (first | with_reducible exact Below.refl _ _ | with_reducible assumption | ((with_reducible refine blA ?_ ?_); (focus (first | omega | (simp <;> omega)))) | (with_reducible refine blD ?_) | (with_reducible refine blN ?_) | ((with_reducible refine blS ?_ ?_); (focus (first | omega | (simp <;> omega)))) | ((with_reducible refine blT (by assumption) ?_ ?_); (focus (first | omega | (simp <;> omega)))))
set_option maxRecDepth 100000 in
set_option maxHeartbeats 4000000 in
theorem specContainsIdeal_any (d e a b e' a' b' : Int) (w : World) (hd : I64 d) :
    Calls Try.prog 17 #[.int .i64 d, .agg #[.int .i64 e, .int .i64 a, .int .i64 b], .agg #[.int .i64 e', .int .i64 a', .int .i64 b']] w fun en w' => en = .returned (.tuple #[.bool (ciB d e a b e' a' b'), .bool (idB d e a b && idB d e' a' b')]) ∧ Below w.heap.size w w' := by
  by_cases c1 : idB d e a b = true
  · by_cases c2 : idB d e' a' b' = true
    · obtain ⟨g1, g2, g3, g4⟩ := ci_G9 c2
      have hs : Hid (ciB d e a b e' a' b' = (ihB e a b (2 * e' * a') 0 && ihB e a b (-e' * b') e')) := by show _ = _; simp [ciB, c1, c2]
      go_enter Try.func17, Try.ntmps17
      go_wp2_with ((go_at_call 32; refine (idGood_any _ _ _ _ _ hd).mono ?_; rintro e w' ⟨rfl, hB⟩; obtain ⟨hC, hF⟩ := bcell hB; have hS := hB.size; (try simp at hS); (try have hSl := Nat.lt_of_succ_le hS); (try have hS0 : w.heap.size < w'.heap.size := by omega); (try have hS1 : w.heap.size + 1 < w'.heap.size := by omega); (try have hS2 : w.heap.size + 1 + 1 < w'.heap.size := by omega); (try have hS3 : w.heap.size + 1 + 1 + 1 < w'.heap.size := by omega)))
      refine (idBasis_any _ _ _ _ _ c2).mono ?_
      rintro e1 w' ⟨w1, hB1, rfl, rfl⟩
      have hS1 := hB1.size
      (try simp at hS1)
      have hx1 : ∀ o, w1.cell? ⟨w.heap.size, o, none⟩ = (#[.int .i64 e, .int .i64 a, .int .i64 b] : Array Value)[o]? := fun o => by
        rw [bG hB1 (by first | omega | (simp <;> omega))]
        (repeat (first | ((with_reducible refine (cell_alloc_old _ _ _ _ ?_).trans ?_); (focus (first | omega | (simp <;> omega)))) | ((with_reducible refine (bG (by assumption) ?_).trans ?_); (focus (first | omega | (simp <;> omega))))))
        simp [go_sem]
      have HB1 := Lib.hid hB1
      clear hB1
      go_wp2
      go_loopw [23] (fun i wr => ∃ k : Nat, k ≤ 2 ∧ i = .int .i64 k ∧ Hid ((1 ≤ k → ihB e a b (2 * e' * a') 0 = true) ∧ (2 ≤ k → ihB e a b (-e' * b') e' = true)) ∧ Hid (Below (w1.heap.size + 1) (w1.alloc (.cells #[.int .i64 (2 * e' * a'), .int .i64 0, .int .i64 (-e' * b'), .int .i64 e'] 59)) wr)) (fun i _ => 2 - (intOf i).toNat)
      case atStart => exact ⟨0, by omega, rfl, ⟨by omega, by omega⟩, Below.refl _ _⟩
      case round =>
        obtain ⟨k, hk, rfl, G, HBr⟩ := hrel
        have hSr := HBr.out.size
        simp at hSr
        have m1 : w.heap.size < wr.heap.size := by omega
        have m2 : w1.heap.size < wr.heap.size := by omega
        have hcr : ∀ o, wr.cell? ⟨w1.heap.size, o, none⟩ = (#[.int .i64 (2 * e' * a'), .int .i64 0, .int .i64 (-e' * b'), .int .i64 e'] : Array Value)[o]? := fun o => by rw [bG HBr.out (by omega)]; simp [go_sem]
        have hxr : ∀ o, wr.cell? ⟨w.heap.size, o, none⟩ = (#[.int .i64 e, .int .i64 a, .int .i64 b] : Array Value)[o]? := fun o => by rw [bG HBr.out (by omega), cell_alloc_old _ _ _ _ (by omega), hx1]
        by_cases k0 : k = 0
        · subst k0
          by_cases hc : ihB e a b (2 * e' * a') 0 = true
          all_goals
            go_wp2_with (go_at_call 37; refine (idHas_any _ _ _ _ _ _ _ c1 g1 g2).mono ?_; rintro e w' ⟨rfl, hB⟩; obtain ⟨hC, hF⟩ := bcell hB; have hS := hB.size; (try simp at hS); (try have hSl := Nat.lt_of_succ_le hS); (try have hS0 : w.heap.size < w'.heap.size := by omega); (try have hS1 : w.heap.size + 1 < w'.heap.size := by omega); (try have hS2 : w.heap.size + 1 + 1 < w'.heap.size := by omega); (try have hS3 : w.heap.size + 1 + 1 + 1 < w'.heap.size := by omega))
            first
              | (go_roundw
                 case rel =>
                   go_light
                   obtain ⟨q1, q2⟩ := G.out
                   refine ⟨1, by omega, rfl, ⟨fun _ => by first | assumption | exact q1 (by omega), fun _ => by first | assumption | omega⟩, ?_⟩
                   have hBr := HBr.out
                   show Below _ _ _
                   repeat (first | with_reducible exact Below.refl _ _ | with_reducible assumption | ((with_reducible refine blA ?_ ?_); (focus (first | omega | (simp <;> omega)))) | (with_reducible refine blD ?_) | (with_reducible refine blN ?_) | ((with_reducible refine blS ?_ ?_); (focus (first | omega | (simp <;> omega)))) | ((with_reducible refine blT (by assumption) ?_ ?_); (focus (first | omega | (simp <;> omega)))))
                 case measure => simp [intOf])
              | (go_ret2
                 refine ⟨ret_bb ?_ ?_, ?_⟩
                 · go_light
                   rw [hs.out]
                   simp [hc]
                 · go_light; rw [c1, c2]; rfl
                 · have hBr := HBr.out
                   have hB1 := HB1.out
                   repeat (first | with_reducible exact Below.refl _ _ | with_reducible assumption | ((with_reducible refine blA ?_ ?_); (focus (first | omega | (simp <;> omega)))) | (with_reducible refine blD ?_) | (with_reducible refine blN ?_) | ((with_reducible refine blS ?_ ?_); (focus (first | omega | (simp <;> omega)))) | ((with_reducible refine blT (by assumption) ?_ ?_); (focus (first | omega | (simp <;> omega))))))
        by_cases k1 : k = 1
        · subst k1
          by_cases hc : ihB e a b (-e' * b') e' = true
          all_goals
            go_wp2_with (go_at_call 37; refine (idHas_any _ _ _ _ _ _ _ c1 g3 g4).mono ?_; rintro e w' ⟨rfl, hB⟩; obtain ⟨hC, hF⟩ := bcell hB; have hS := hB.size; (try simp at hS); (try have hSl := Nat.lt_of_succ_le hS); (try have hS0 : w.heap.size < w'.heap.size := by omega); (try have hS1 : w.heap.size + 1 < w'.heap.size := by omega); (try have hS2 : w.heap.size + 1 + 1 < w'.heap.size := by omega); (try have hS3 : w.heap.size + 1 + 1 + 1 < w'.heap.size := by omega))
            first
              | (go_roundw
                 case rel =>
                   go_light
                   obtain ⟨q1, q2⟩ := G.out
                   refine ⟨2, by omega, rfl, ⟨fun _ => by first | assumption | exact q1 (by omega), fun _ => by first | assumption | omega⟩, ?_⟩
                   have hBr := HBr.out
                   show Below _ _ _
                   repeat (first | with_reducible exact Below.refl _ _ | with_reducible assumption | ((with_reducible refine blA ?_ ?_); (focus (first | omega | (simp <;> omega)))) | (with_reducible refine blD ?_) | (with_reducible refine blN ?_) | ((with_reducible refine blS ?_ ?_); (focus (first | omega | (simp <;> omega)))) | ((with_reducible refine blT (by assumption) ?_ ?_); (focus (first | omega | (simp <;> omega)))))
                 case measure => simp [intOf])
              | (go_ret2
                 refine ⟨ret_bb ?_ ?_, ?_⟩
                 · go_light
                   rw [hs.out]
                   simp [hc]
                 · go_light; rw [c1, c2]; rfl
                 · have hBr := HBr.out
                   have hB1 := HB1.out
                   repeat (first | with_reducible exact Below.refl _ _ | with_reducible assumption | ((with_reducible refine blA ?_ ?_); (focus (first | omega | (simp <;> omega)))) | (with_reducible refine blD ?_) | (with_reducible refine blN ?_) | ((with_reducible refine blS ?_ ?_); (focus (first | omega | (simp <;> omega)))) | ((with_reducible refine blT (by assumption) ?_ ?_); (focus (first | omega | (simp <;> omega))))))
        have hk : k = 2 := by omega
        subst hk
        go_wp2
        go_ret2
        refine ⟨ret_bb ?_ ?_, ?_⟩
        · go_light
          obtain ⟨g1, g2⟩ := G.out
          rw [hs.out]
          simp [g1, g2]
        · go_light; rw [c1, c2]; rfl
        · have hBr := HBr.out
          have hB1 := HB1.out
          repeat (first | with_reducible exact Below.refl _ _ | with_reducible assumption | ((with_reducible refine blA ?_ ?_); (focus (first | omega | (simp <;> omega)))) | (with_reducible refine blD ?_) | (with_reducible refine blN ?_) | ((with_reducible refine blS ?_ ?_); (focus (first | omega | (simp <;> omega)))) | ((with_reducible refine blT (by assumption) ?_ ?_); (focus (first | omega | (simp <;> omega)))))
    · have c2' : idB d e' a' b' = false := by simpa using c2
      have hs : Hid (ciB d e a b e' a' b' = false) := by show _ = _; simp [ciB, c2']
      clear c2
      go_enter Try.func17, Try.ntmps17
      go_wp2_with ((go_at_call 32; refine (idGood_any _ _ _ _ _ hd).mono ?_; rintro e w' ⟨rfl, hB⟩; obtain ⟨hC, hF⟩ := bcell hB; have hS := hB.size; (try simp at hS); (try have hSl := Nat.lt_of_succ_le hS); (try have hS0 : w.heap.size < w'.heap.size := by omega); (try have hS1 : w.heap.size + 1 < w'.heap.size := by omega); (try have hS2 : w.heap.size + 1 + 1 < w'.heap.size := by omega); (try have hS3 : w.heap.size + 1 + 1 + 1 < w'.heap.size := by omega)))
      go_ret2
      refine ⟨ret_bb (by go_light; rw [hs.out]) (by go_light; rw [c1, c2']; rfl), ?_⟩
      repeat (first | with_reducible exact Below.refl _ _ | with_reducible assumption | ((with_reducible refine blA ?_ ?_); (focus (first | omega | (simp <;> omega)))) | (with_reducible refine blD ?_) | (with_reducible refine blN ?_) | ((with_reducible refine blS ?_ ?_); (focus (first | omega | (simp <;> omega)))) | ((with_reducible refine blT (by assumption) ?_ ?_); (focus (first | omega | (simp <;> omega)))))
  · have c1' : idB d e a b = false := by simpa using c1
    have hs : Hid (ciB d e a b e' a' b' = false) := by show _ = _; simp [ciB, c1']
    clear c1
    go_enter Try.func17, Try.ntmps17
    go_wp2_with ((go_at_call 32; refine (idGood_any _ _ _ _ _ hd).mono ?_; rintro e w' ⟨rfl, hB⟩; obtain ⟨hC, hF⟩ := bcell hB; have hS := hB.size; (try simp at hS); (try have hSl := Nat.lt_of_succ_le hS); (try have hS0 : w.heap.size < w'.heap.size := by omega); (try have hS1 : w.heap.size + 1 < w'.heap.size := by omega); (try have hS2 : w.heap.size + 1 + 1 < w'.heap.size := by omega); (try have hS3 : w.heap.size + 1 + 1 + 1 < w'.heap.size := by omega)))
    go_ret2
    refine ⟨ret_bb (by go_light; rw [hs.out]) (by go_light; rw [c1']; rfl), ?_⟩
    repeat (first | with_reducible exact Below.refl _ _ | with_reducible assumption | ((with_reducible refine blA ?_ ?_); (focus (first | omega | (simp <;> omega)))) | (with_reducible refine blD ?_) | (with_reducible refine blN ?_) | ((with_reducible refine blS ?_ ?_); (focus (first | omega | (simp <;> omega)))) | ((with_reducible refine blT (by assumption) ?_ ?_); (focus (first | omega | (simp <;> omega)))))
set_option maxHeartbeats 1000000 in
theorem law_containsIdeal (d e a b e' a' b' : Int) (w : World) (hd : I64 d) (_ : I64 e) (_ : I64 a) (_ : I64 b) (_ : I64 e') (_ : I64 a') (_ : I64 b') :
    Calls Try.prog 5 #[.int .i64 d, .agg #[.int .i64 e, .int .i64 a, .int .i64 b], .agg #[.int .i64 e', .int .i64 a', .int .i64 b']] w fun en w' => en = .returned (.bool true) ∧ Below w.heap.size w w' := by
  go_enter Try.func5, Try.ntmps5
  go_wp2_with fail
  refine wp_region_past (by kernel_rfl) (by kernel_rfl) ?_
  repeat (first | go_big_quiet_skip | (go_big_quiet_want; go_big_quiet_op; first | go_big_quiet_on | (apply Exists.intro; refine ⟨fun _ => ?_, ?_⟩; (focus (first | (go_at_call 12; exact past_of (toIdeal_any _ _ _ _)) | (go_at_call 17; exact past_of (specContainsIdeal_any _ _ _ _ _ _ _ _ hd)))); go_big_quiet_on)))
  refine wpQuiet_nil ?_
  intro w1 hw'
  have hB1 := past_below hw'
  clear hw'
  obtain ⟨hC1, hF1⟩ := bcell hB1
  have hS1 := hB1.size
  (try simp at hS1)
  (try have hS1_w0 : w.heap.size < w1.heap.size := by omega)
  (try have hS1_w1 : w.heap.size + 1 < w1.heap.size := by omega)
  (try have hS1_w2 : w.heap.size + 1 + 1 < w1.heap.size := by omega)
  (try have hS1_w3 : w.heap.size + 1 + 1 + 1 < w1.heap.size := by omega)
  (try have hS1_w4 : w.heap.size + 1 + 1 + 1 + 1 < w1.heap.size := by omega)
  go_wp2_with fail
  refine wp_region_past (by kernel_rfl) (by kernel_rfl) ?_
  repeat (first | go_big_quiet_skip | (go_big_quiet_want; go_big_quiet_op; first | go_big_quiet_on | (apply Exists.intro; refine ⟨fun _ => ?_, ?_⟩; (focus (first | (go_at_call 12; exact past_of (toIdeal_any _ _ _ _)) | (go_at_call 18; exact past_of (implContainsIdeal_any _ _ _ _ _ _ _ _ hd)))); go_big_quiet_on)))
  refine wpQuiet_nil ?_
  intro w2 hw'
  have hB2 := past_below hw'
  clear hw'
  obtain ⟨hC2, hF2⟩ := bcell hB2
  have hS2 := hB2.size
  (try simp at hS2)
  (try have hS2_w0 : w.heap.size < w2.heap.size := by omega)
  (try have hS2_w1 : w.heap.size + 1 < w2.heap.size := by omega)
  (try have hS2_w2 : w.heap.size + 1 + 1 < w2.heap.size := by omega)
  (try have hS2_w3 : w.heap.size + 1 + 1 + 1 < w2.heap.size := by omega)
  (try have hS2_w4 : w.heap.size + 1 + 1 + 1 + 1 < w2.heap.size := by omega)
  (try have hS2_1 : w1.heap.size < w2.heap.size := by omega)
  (try have hS2_1' : w1.heap.size + 1 < w2.heap.size := by omega)
  go_wp2
  go_ret
  refine ⟨rfl, ?_⟩
  repeat (first | with_reducible exact Below.refl _ _ | with_reducible assumption | ((with_reducible refine blA ?_ ?_); (focus (first | omega | (simp <;> omega)))) | (with_reducible refine blD ?_) | (with_reducible refine blN ?_) | ((with_reducible refine blS ?_ ?_); (focus (first | omega | (simp <;> omega)))) | ((with_reducible refine blT (by assumption) ?_ ?_); (focus (first | omega | (simp <;> omega)))))
end Go.Proofs.Ytahhbjjnbdggjaa
