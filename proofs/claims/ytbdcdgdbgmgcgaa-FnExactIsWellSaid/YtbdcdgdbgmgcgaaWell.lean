/-
  Wells of the topograph.
-/
import Derived.Test.YtbdcdgdbgmgcgaaTopoL
import Derived.Test.YtbdcdgdbgmgcgaaDef
namespace Go.Proofs.Ytbdcdgdbgmgcgaa
open Go.RowKit
attribute [local simp, local go_sem] past_cell past_frozen past_tape
/-- A value that fits, with two others. -/
def V3 (n : Int) : Prop := -3000000000000000000 ≤ n ∧ n ≤ 3000000000000000000
theorem valW_V3 {a b c x y : Int} (ha : Bd 1000000 a) (hb : Bd 1000000 b) (hc : Bd 1000000 c) (hx : Bd 1000000 x) (hy : Bd 1000000 y) : V3 (valW a b c x y) ∧ valW a b c x y = a * x * x + b * x * y + c * y * y := by
  have k : (1000000 : Int) * 1000000 ≤ 1000000000000 := by decide
  have k2 : (1000000000000 : Int) * 1000000 ≤ 1000000000000000000 := by decide
  have e1 := mul_bd ha hx k
  have e2 := mul_bd hb hx k
  have e3 := mul_bd hc hy k
  have f1 := mul_bd e1 hx k2
  have f2 := mul_bd e2 hy k2
  have f3 := mul_bd e3 hy k2
  obtain ⟨p1, p2⟩ := e1; obtain ⟨p3, p4⟩ := e2; obtain ⟨p5, p6⟩ := e3
  obtain ⟨q1, q2⟩ := f1; obtain ⟨q3, q4⟩ := f2; obtain ⟨q5, q6⟩ := f3
  have h : valW a b c x y = a * x * x + b * x * y + c * y * y := by
    unfold valW
    rw [IntWalk.wrap64_in (a * x) ⟨by omega, by omega⟩, IntWalk.wrap64_in (b * x) ⟨by omega, by omega⟩, IntWalk.wrap64_in (c * y) ⟨by omega, by omega⟩, IntWalk.wrap64_in (a * x * x) ⟨by omega, by omega⟩, IntWalk.wrap64_in (b * x * y) ⟨by omega, by omega⟩, IntWalk.wrap64_in (c * y * y) ⟨by omega, by omega⟩, IntWalk.wrap64_in (a * x * x + b * x * y) ⟨by omega, by omega⟩, IntWalk.wrap64_in _ ⟨by omega, by omega⟩]
  exact ⟨by rw [h]; exact ⟨by omega, by omega⟩, h⟩
def wellB (u v x : Int) : Bool := !(decide (v + x < u) || decide (u + x < v) || decide (u + v < x))
def steepI (u v x : Int) : Int := if v + x < u then 1 else if u + x < v then 2 else if u + v < x then 3 else 0
theorem steepI_well (u v x : Int) : (steepI u v x == 0) = wellB u v x := by
  unfold steepI wellB
  by_cases h1 : v + x < u <;> by_cases h2 : u + x < v <;> by_cases h3 : u + v < x <;> simp [h1, h2, h3]
theorem index3 (u v x : Int) (k : Nat) (hk : k < 3) (w : World) : (Instr.index 58 (.agg #[.int .i64 u, .int .i64 v, .int .i64 x]) (.int .i64 (k : Int))).run Try.prog w = .ok (.int .i64 ([u, v, x].getD k 0)) w := by
  match k, hk with
  | 0, _ => rfl
  | 1, _ => rfl
  | 2, _ => rfl
set_option maxHeartbeats 800000 in
theorem steep_any (u v x : Int) (w : World) (hu : V3 u) (hv : V3 v) (hx : V3 x) :
    Calls Try.prog 36 #[.agg #[.int .i64 u, .int .i64 v, .int .i64 x]] w fun e w' => e = .returned (.int .i64 (steepI u v x)) ∧ Below w.heap.size w w' := by
  obtain ⟨u1, u2⟩ := hu
  obtain ⟨v1, v2⟩ := hv
  obtain ⟨x1, x2⟩ := hx
  go_enter Try.func36, Try.ntmps36
  go_wp2
  go_loop [6] (fun i => ∃ k : Nat, k ≤ 3 ∧ i = .int .i64 k ∧ (1 ≤ k → u ≤ v + x) ∧ (2 ≤ k → v ≤ u + x) ∧ (3 ≤ k → x ≤ u + v)) (fun i => 3 - (intOf i).toNat)
  case atStart => exact ⟨0, Nat.zero_le _, rfl, by omega, by omega, by omega⟩
  case round =>
    obtain ⟨k, hk, rfl, g1, g2, g3⟩ := hrel
    by_cases hlt : k < 3
    · have hix := index3 u v x k hlt
      have hz : V3 ([u, v, x].getD k 0) ∧ (k = 0 → [u, v, x].getD k 0 = u) ∧ (k = 1 → [u, v, x].getD k 0 = v) ∧ (k = 2 → [u, v, x].getD k 0 = x) := by
        have : k = 0 ∨ k = 1 ∨ k = 2 := by omega
        rcases this with rfl | rfl | rfl <;> simp <;> exact ⟨by omega, by omega⟩
      generalize [u, v, x].getD k 0 = z at *
      obtain ⟨⟨z1, z2⟩, z3, z4, z5⟩ := hz
      have G := Lib.hid (And.intro g1 (And.intro g2 (And.intro g3 (And.intro z3 (And.intro z4 z5)))))
      clear g1 g2 g3 z3 z4 z5
      go_wp2
      all_goals first
        | (go_round
           case rel =>
             go_light
             obtain ⟨g1, g2, g3, z3, z4, z5⟩ := G.out
             exact ⟨k + 1, by omega, by go_num, by omega, by omega, by omega⟩
           case measure => simp [intOf]; omega)
        | (go_ret
           refine ⟨ret_int ?_, ?_⟩
           · go_light
             obtain ⟨g1, g2, g3, z3, z4, z5⟩ := G.out
             have : k = 0 ∨ k = 1 ∨ k = 2 := by omega
             unfold steepI
             repeat' split
             all_goals omega
           · repeat (first | with_reducible exact Below.refl _ _ | with_reducible assumption | ((with_reducible refine blA ?_ ?_); (focus (first | omega | (simp <;> omega)))) | (with_reducible refine blD ?_) | (with_reducible refine blN ?_) | ((with_reducible refine blS ?_ ?_); (focus (first | omega | (simp <;> omega)))) | ((with_reducible refine blT (by assumption) ?_ ?_); (focus (first | omega | (simp <;> omega))))))
    · go_wp2
      go_ret
      refine ⟨ret_int ?_, ?_⟩
      · unfold steepI
        rw [if_neg (by omega), if_neg (by omega), if_neg (by omega)]
      · repeat (first | with_reducible exact Below.refl _ _ | with_reducible assumption | ((with_reducible refine blA ?_ ?_); (focus (first | omega | (simp <;> omega)))) | (with_reducible refine blD ?_) | (with_reducible refine blN ?_) | ((with_reducible refine blS ?_ ?_); (focus (first | omega | (simp <;> omega)))) | ((with_reducible refine blT (by assumption) ?_ ?_); (focus (first | omega | (simp <;> omega)))))
theorem tpSplit1 (a b c d e f : Int) (w : World) :
    Calls Try.prog 62 #[.agg #[.int .i64 a, .int .i64 b, .int .i64 c, .int .i64 d, .int .i64 e, .int .i64 f], .int .i64 1] w fun en w' => en = .returned (.tuple #[.agg #[.int .i64 a, .int .i64 b], .agg #[.int .i64 c, .int .i64 d], .agg #[.int .i64 e, .int .i64 f]]) ∧ Below w.heap.size w w' := by
  go_enter Try.func62, Try.ntmps62
  go_wp2_with fail
  go_region
  go_wp2
  refine bodyPost_ret (v := .tuple #[.agg #[.int .i64 a, .int .i64 b], .agg #[.int .i64 c, .int .i64 d], .agg #[.int .i64 e, .int .i64 f]]) (by go_light; simp [results, Try.results62, go_sem, *]) rfl ⟨rfl, ?_⟩
  repeat (first | with_reducible exact Below.refl _ _ | with_reducible assumption | ((with_reducible refine blA ?_ ?_); (focus (first | omega | (simp <;> omega)))) | (with_reducible refine blD ?_) | (with_reducible refine blN ?_) | ((with_reducible refine blS ?_ ?_); (focus (first | omega | (simp <;> omega)))) | ((with_reducible refine blT (by assumption) ?_ ?_); (focus (first | omega | (simp <;> omega)))))
theorem tpSplit2 (a b c d e f : Int) (w : World) :
    Calls Try.prog 62 #[.agg #[.int .i64 a, .int .i64 b, .int .i64 c, .int .i64 d, .int .i64 e, .int .i64 f], .int .i64 2] w fun en w' => en = .returned (.tuple #[.agg #[.int .i64 c, .int .i64 d], .agg #[.int .i64 a, .int .i64 b], .agg #[.int .i64 e, .int .i64 f]]) ∧ Below w.heap.size w w' := by
  go_enter Try.func62, Try.ntmps62
  go_wp2_with fail
  go_region
  go_wp2
  refine bodyPost_ret (v := .tuple #[.agg #[.int .i64 c, .int .i64 d], .agg #[.int .i64 a, .int .i64 b], .agg #[.int .i64 e, .int .i64 f]]) (by go_light; simp [results, Try.results62, go_sem, *]) rfl ⟨rfl, ?_⟩
  repeat (first | with_reducible exact Below.refl _ _ | with_reducible assumption | ((with_reducible refine blA ?_ ?_); (focus (first | omega | (simp <;> omega)))) | (with_reducible refine blD ?_) | (with_reducible refine blN ?_) | ((with_reducible refine blS ?_ ?_); (focus (first | omega | (simp <;> omega)))) | ((with_reducible refine blT (by assumption) ?_ ?_); (focus (first | omega | (simp <;> omega)))))
theorem tpSplit3 (a b c d e f : Int) (w : World) :
    Calls Try.prog 62 #[.agg #[.int .i64 a, .int .i64 b, .int .i64 c, .int .i64 d, .int .i64 e, .int .i64 f], .int .i64 3] w fun en w' => en = .returned (.tuple #[.agg #[.int .i64 e, .int .i64 f], .agg #[.int .i64 a, .int .i64 b], .agg #[.int .i64 c, .int .i64 d]]) ∧ Below w.heap.size w w' := by
  go_enter Try.func62, Try.ntmps62
  go_wp2_with fail
  go_region
  go_wp2
  refine bodyPost_ret (v := .tuple #[.agg #[.int .i64 e, .int .i64 f], .agg #[.int .i64 a, .int .i64 b], .agg #[.int .i64 c, .int .i64 d]]) (by go_light; simp [results, Try.results62, go_sem, *]) rfl ⟨rfl, ?_⟩
  repeat (first | with_reducible exact Below.refl _ _ | with_reducible assumption | ((with_reducible refine blA ?_ ?_); (focus (first | omega | (simp <;> omega)))) | (with_reducible refine blD ?_) | (with_reducible refine blN ?_) | ((with_reducible refine blS ?_ ?_); (focus (first | omega | (simp <;> omega)))) | ((with_reducible refine blT (by assumption) ?_ ?_); (focus (first | omega | (simp <;> omega)))))
/-- The node's three values fit. -/
def NV (p q r a b c d e f : Int) : Prop := V3 (valW p q r a b) ∧ V3 (valW p q r c d) ∧ V3 (valW p q r e f)
set_option maxRecDepth 100000 in
set_option maxHeartbeats 4000000 in
theorem tpFall_any (p q r a b c d e f : Int) (w : World) (hv : NV p q r a b c d e f) :
    Calls Try.prog 34 #[.agg #[.int .i64 p, .int .i64 q, .int .i64 r], .agg #[.int .i64 a, .int .i64 b, .int .i64 c, .int .i64 d, .int .i64 e, .int .i64 f]] w fun en w' => en = .returned (.int .i64 (steepI (valW p q r a b) (valW p q r c d) (valW p q r e f))) ∧ Below w.heap.size w w' := by
  obtain ⟨⟨u1, u2⟩, ⟨v1, v2⟩, ⟨x1, x2⟩⟩ := hv
  go_enter Try.func34, Try.ntmps34
  go_wp2
  go_loopw [5] (fun i wr => ∃ k : Nat, 1 ≤ k ∧ k ≤ 4 ∧ i = .int .i64 k ∧ (2 ≤ k → ¬ (valW p q r c d) + (valW p q r e f) < (valW p q r a b)) ∧ (3 ≤ k → ¬ (valW p q r a b) + (valW p q r e f) < (valW p q r c d)) ∧ (4 ≤ k → ¬ (valW p q r a b) + (valW p q r c d) < (valW p q r e f)) ∧
    Below (w.heap.size + 1 + 1) ((w.alloc (.cells #[.int .i64 p, .int .i64 q, .int .i64 r] 36)).alloc (.cells #[.int .i64 a, .int .i64 b, .int .i64 c, .int .i64 d, .int .i64 e, .int .i64 f] 29)) wr) (fun i _ => 4 - (intOf i).toNat)
  case atStart => exact ⟨1, by omega, by omega, rfl, by omega, by omega, by omega, Below.refl _ _⟩
  case round =>
    obtain ⟨k, hk1, hk4, rfl, g1, g2, g3, hBr⟩ := hrel
    have hS0 := hBr.size
    simp at hS0
    have hcF : ∀ o, wr.cell? ⟨w.heap.size, o, none⟩ = (#[.int .i64 p, .int .i64 q, .int .i64 r] : Array Value)[o]? := fun o => by rw [hBr.cell (p := ⟨w.heap.size, o, none⟩) (by show w.heap.size < _; omega)]; simp [go_sem]
    have hcN : ∀ o, wr.cell? ⟨w.heap.size + 1, o, none⟩ = (#[.int .i64 a, .int .i64 b, .int .i64 c, .int .i64 d, .int .i64 e, .int .i64 f] : Array Value)[o]? := fun o => by rw [hBr.cell (p := ⟨w.heap.size + 1, o, none⟩) (by show w.heap.size + 1 < _; omega)]; simp [go_sem]
    have G := Lib.hid (And.intro g1 (And.intro g2 g3))
    have HBr := Lib.hid hBr
    clear g1 g2 g3 hBr

    by_cases k1 : k = 1
    · subst k1
      by_cases hc : (valW p q r c d) + (valW p q r e f) < (valW p q r a b)
      all_goals
        go_wp2_with fail
        refine (tpSplit1 a b c d e f _).mono ?_
        rintro e1 w1 ⟨rfl, hB1⟩
        obtain ⟨hC1, hF1⟩ := bcell hB1
        have hS1 := hB1.size
        have hcF1 : ∀ o, w1.cell? ⟨w.heap.size, o, none⟩ = (#[.int .i64 p, .int .i64 q, .int .i64 r] : Array Value)[o]? := fun o => by rw [hC1 _ o (by omega), hcF o]
        have hcN1 : ∀ o, w1.cell? ⟨w.heap.size + 1, o, none⟩ = (#[.int .i64 a, .int .i64 b, .int .i64 c, .int .i64 d, .int .i64 e, .int .i64 f] : Array Value)[o]? := fun o => by rw [hC1 _ o (by omega), hcN o]
        have m7 : w.heap.size < w1.heap.size + 1 + 1 + 1 := by omega
        have m8 : w.heap.size + 1 < w1.heap.size + 1 + 1 + 1 := by omega
        have m1 : w.heap.size < w1.heap.size := by omega
        have m2 : w.heap.size + 1 < w1.heap.size := by omega
        have m3 : w.heap.size < w1.heap.size + 1 := by omega
        have m4 : w.heap.size + 1 < w1.heap.size + 1 := by omega
        have m5 : w.heap.size < w1.heap.size + 1 + 1 := by omega
        have m6 : w.heap.size + 1 < w1.heap.size + 1 + 1 := by omega
        go_wp2_with fail
        refine wp_region_past (by kernel_rfl) (by kernel_rfl) ?_
        repeat (first | go_big_quiet_skip | (go_big_quiet_want; go_big_quiet_op; first | go_big_quiet_on | (apply Exists.intro; refine ⟨fun _ => ?_, ?_⟩; (focus ((go_at_call 30; exact past_of (foValue_any _ _ _ _ _ _)))); go_big_quiet_on)))
        refine wpQuiet_nil ?_
        intro w1 hw'
        have hB1 := past_below hw'
        clear hw'
        obtain ⟨hC1, hF1⟩ := bcell hB1
        have hS1 := hB1.size
        (try simp at hS1)
        (try have hS1_w0 : w.heap.size < w1.heap.size := by omega)
        (try have hS1_w1 : w.heap.size + 1 < w1.heap.size := by omega)
        (try have hS1_w2 : w.heap.size + 1 + 1 < w1.heap.size := by omega)
        (try have hS1_w3 : w.heap.size + 1 + 1 + 1 < w1.heap.size := by omega)
        (try have hS1_w4 : w.heap.size + 1 + 1 + 1 + 1 < w1.heap.size := by omega)
        go_wp2
        first
          | (go_roundw
             case rel =>
               go_light
               obtain ⟨g1, g2, g3⟩ := G.out
               have hBr := HBr.out
               refine ⟨2, by omega, by omega, rfl, by omega, by omega, by omega, ?_⟩
               repeat (first | with_reducible exact Below.refl _ _ | with_reducible assumption | ((with_reducible refine blA ?_ ?_); (focus (first | omega | (simp <;> omega)))) | (with_reducible refine blD ?_) | (with_reducible refine blN ?_) | ((with_reducible refine blS ?_ ?_); (focus (first | omega | (simp <;> omega)))) | ((with_reducible refine blT (by assumption) ?_ ?_); (focus (first | omega | (simp <;> omega)))))
             case measure => simp [intOf])
          | (go_ret
             refine ⟨ret_int ?_, ?_⟩
             · go_light
               obtain ⟨g1, g2, g3⟩ := G.out
               unfold steepI
               repeat' split
               all_goals omega
             · have hBr := HBr.out
               repeat (first | with_reducible exact Below.refl _ _ | with_reducible assumption | ((with_reducible refine blA ?_ ?_); (focus (first | omega | (simp <;> omega)))) | (with_reducible refine blD ?_) | (with_reducible refine blN ?_) | ((with_reducible refine blS ?_ ?_); (focus (first | omega | (simp <;> omega)))) | ((with_reducible refine blT (by assumption) ?_ ?_); (focus (first | omega | (simp <;> omega))))))

    by_cases k2 : k = 2
    · subst k2
      by_cases hc : (valW p q r a b) + (valW p q r e f) < (valW p q r c d)
      all_goals
        go_wp2_with fail
        refine (tpSplit2 a b c d e f _).mono ?_
        rintro e1 w1 ⟨rfl, hB1⟩
        obtain ⟨hC1, hF1⟩ := bcell hB1
        have hS1 := hB1.size
        have hcF1 : ∀ o, w1.cell? ⟨w.heap.size, o, none⟩ = (#[.int .i64 p, .int .i64 q, .int .i64 r] : Array Value)[o]? := fun o => by rw [hC1 _ o (by omega), hcF o]
        have hcN1 : ∀ o, w1.cell? ⟨w.heap.size + 1, o, none⟩ = (#[.int .i64 a, .int .i64 b, .int .i64 c, .int .i64 d, .int .i64 e, .int .i64 f] : Array Value)[o]? := fun o => by rw [hC1 _ o (by omega), hcN o]
        have m7 : w.heap.size < w1.heap.size + 1 + 1 + 1 := by omega
        have m8 : w.heap.size + 1 < w1.heap.size + 1 + 1 + 1 := by omega
        have m1 : w.heap.size < w1.heap.size := by omega
        have m2 : w.heap.size + 1 < w1.heap.size := by omega
        have m3 : w.heap.size < w1.heap.size + 1 := by omega
        have m4 : w.heap.size + 1 < w1.heap.size + 1 := by omega
        have m5 : w.heap.size < w1.heap.size + 1 + 1 := by omega
        have m6 : w.heap.size + 1 < w1.heap.size + 1 + 1 := by omega
        go_wp2_with fail
        refine wp_region_past (by kernel_rfl) (by kernel_rfl) ?_
        repeat (first | go_big_quiet_skip | (go_big_quiet_want; go_big_quiet_op; first | go_big_quiet_on | (apply Exists.intro; refine ⟨fun _ => ?_, ?_⟩; (focus ((go_at_call 30; exact past_of (foValue_any _ _ _ _ _ _)))); go_big_quiet_on)))
        refine wpQuiet_nil ?_
        intro w2 hw'
        have hB2 := past_below hw'
        clear hw'
        obtain ⟨hC2, hF2⟩ := bcell hB2
        have hS2 := hB2.size
        (try simp at hS2)
        (try have hS2_w0 : w.heap.size < w2.heap.size := by omega)
        (try have hS2_w1 : w.heap.size + 1 < w2.heap.size := by omega)
        (try have hS2_w2 : w.heap.size + 1 + 1 < w2.heap.size := by omega)
        (try have hS2_w3 : w.heap.size + 1 + 1 + 1 < w2.heap.size := by omega)
        (try have hS2_w4 : w.heap.size + 1 + 1 + 1 + 1 < w2.heap.size := by omega)
        (try have hS2_1 : w1.heap.size < w2.heap.size := by omega)
        (try have hS2_1' : w1.heap.size + 1 < w2.heap.size := by omega)
        go_wp2
        first
          | (go_roundw
             case rel =>
               go_light
               obtain ⟨g1, g2, g3⟩ := G.out
               have hBr := HBr.out
               refine ⟨3, by omega, by omega, rfl, by omega, by omega, by omega, ?_⟩
               repeat (first | with_reducible exact Below.refl _ _ | with_reducible assumption | ((with_reducible refine blA ?_ ?_); (focus (first | omega | (simp <;> omega)))) | (with_reducible refine blD ?_) | (with_reducible refine blN ?_) | ((with_reducible refine blS ?_ ?_); (focus (first | omega | (simp <;> omega)))) | ((with_reducible refine blT (by assumption) ?_ ?_); (focus (first | omega | (simp <;> omega)))))
             case measure => simp [intOf])
          | (go_ret
             refine ⟨ret_int ?_, ?_⟩
             · go_light
               obtain ⟨g1, g2, g3⟩ := G.out
               unfold steepI
               repeat' split
               all_goals omega
             · have hBr := HBr.out
               repeat (first | with_reducible exact Below.refl _ _ | with_reducible assumption | ((with_reducible refine blA ?_ ?_); (focus (first | omega | (simp <;> omega)))) | (with_reducible refine blD ?_) | (with_reducible refine blN ?_) | ((with_reducible refine blS ?_ ?_); (focus (first | omega | (simp <;> omega)))) | ((with_reducible refine blT (by assumption) ?_ ?_); (focus (first | omega | (simp <;> omega))))))

    by_cases k3 : k = 3
    · subst k3
      by_cases hc : (valW p q r a b) + (valW p q r c d) < (valW p q r e f)
      all_goals
        go_wp2_with fail
        refine (tpSplit3 a b c d e f _).mono ?_
        rintro e1 w1 ⟨rfl, hB1⟩
        obtain ⟨hC1, hF1⟩ := bcell hB1
        have hS1 := hB1.size
        have hcF1 : ∀ o, w1.cell? ⟨w.heap.size, o, none⟩ = (#[.int .i64 p, .int .i64 q, .int .i64 r] : Array Value)[o]? := fun o => by rw [hC1 _ o (by omega), hcF o]
        have hcN1 : ∀ o, w1.cell? ⟨w.heap.size + 1, o, none⟩ = (#[.int .i64 a, .int .i64 b, .int .i64 c, .int .i64 d, .int .i64 e, .int .i64 f] : Array Value)[o]? := fun o => by rw [hC1 _ o (by omega), hcN o]
        have m7 : w.heap.size < w1.heap.size + 1 + 1 + 1 := by omega
        have m8 : w.heap.size + 1 < w1.heap.size + 1 + 1 + 1 := by omega
        have m1 : w.heap.size < w1.heap.size := by omega
        have m2 : w.heap.size + 1 < w1.heap.size := by omega
        have m3 : w.heap.size < w1.heap.size + 1 := by omega
        have m4 : w.heap.size + 1 < w1.heap.size + 1 := by omega
        have m5 : w.heap.size < w1.heap.size + 1 + 1 := by omega
        have m6 : w.heap.size + 1 < w1.heap.size + 1 + 1 := by omega
        go_wp2_with fail
        refine wp_region_past (by kernel_rfl) (by kernel_rfl) ?_
        repeat (first | go_big_quiet_skip | (go_big_quiet_want; go_big_quiet_op; first | go_big_quiet_on | (apply Exists.intro; refine ⟨fun _ => ?_, ?_⟩; (focus ((go_at_call 30; exact past_of (foValue_any _ _ _ _ _ _)))); go_big_quiet_on)))
        refine wpQuiet_nil ?_
        intro w3 hw'
        have hB3 := past_below hw'
        clear hw'
        obtain ⟨hC3, hF3⟩ := bcell hB3
        have hS3 := hB3.size
        (try simp at hS3)
        (try have hS3_w0 : w.heap.size < w3.heap.size := by omega)
        (try have hS3_w1 : w.heap.size + 1 < w3.heap.size := by omega)
        (try have hS3_w2 : w.heap.size + 1 + 1 < w3.heap.size := by omega)
        (try have hS3_w3 : w.heap.size + 1 + 1 + 1 < w3.heap.size := by omega)
        (try have hS3_w4 : w.heap.size + 1 + 1 + 1 + 1 < w3.heap.size := by omega)
        (try have hS3_1 : w1.heap.size < w3.heap.size := by omega)
        (try have hS3_2 : w2.heap.size < w3.heap.size := by omega)
        (try have hS3_1' : w1.heap.size + 1 < w3.heap.size := by omega)
        (try have hS3_2' : w2.heap.size + 1 < w3.heap.size := by omega)
        go_wp2
        first
          | (go_roundw
             case rel =>
               go_light
               obtain ⟨g1, g2, g3⟩ := G.out
               have hBr := HBr.out
               refine ⟨4, by omega, by omega, rfl, by omega, by omega, by omega, ?_⟩
               repeat (first | with_reducible exact Below.refl _ _ | with_reducible assumption | ((with_reducible refine blA ?_ ?_); (focus (first | omega | (simp <;> omega)))) | (with_reducible refine blD ?_) | (with_reducible refine blN ?_) | ((with_reducible refine blS ?_ ?_); (focus (first | omega | (simp <;> omega)))) | ((with_reducible refine blT (by assumption) ?_ ?_); (focus (first | omega | (simp <;> omega)))))
             case measure => simp [intOf])
          | (go_ret
             refine ⟨ret_int ?_, ?_⟩
             · go_light
               obtain ⟨g1, g2, g3⟩ := G.out
               unfold steepI
               repeat' split
               all_goals omega
             · have hBr := HBr.out
               repeat (first | with_reducible exact Below.refl _ _ | with_reducible assumption | ((with_reducible refine blA ?_ ?_); (focus (first | omega | (simp <;> omega)))) | (with_reducible refine blD ?_) | (with_reducible refine blN ?_) | ((with_reducible refine blS ?_ ?_); (focus (first | omega | (simp <;> omega)))) | ((with_reducible refine blT (by assumption) ?_ ?_); (focus (first | omega | (simp <;> omega))))))

    have hk : k = 4 := by omega
    subst hk
    go_wp2
    go_ret
    refine ⟨ret_int ?_, ?_⟩
    · go_light
      obtain ⟨g1, g2, g3⟩ := G.out
      unfold steepI
      have g1 := g1 (by omega)
      have g2 := g2 (by omega)
      have g3 := g3 (by omega)
      repeat' split
      all_goals omega
    · have hBr := HBr.out
      repeat (first | with_reducible exact Below.refl _ _ | with_reducible assumption | ((with_reducible refine blA ?_ ?_); (focus (first | omega | (simp <;> omega)))) | (with_reducible refine blD ?_) | (with_reducible refine blN ?_) | ((with_reducible refine blS ?_ ?_); (focus (first | omega | (simp <;> omega)))) | ((with_reducible refine blT (by assumption) ?_ ?_); (focus (first | omega | (simp <;> omega)))))
end Go.Proofs.Ytbdcdgdbgmgcgaa
