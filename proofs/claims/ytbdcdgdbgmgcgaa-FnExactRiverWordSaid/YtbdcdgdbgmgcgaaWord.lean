/-
  RiverWord, and the walk of its law.
-/
import Derived.Test.YtbdcdgdbgmgcgaaOrbit
import Derived.Test.YtbdcdgdbgmgcgaaRiverL
import Derived.Test.YtbdcdgdbgmgcgaaEnd
import Derived.Laws.Concat
namespace Go.Proofs.Ytbdcdgdbgmgcgaa
open Go.RowKit
attribute [local simp, local go_sem] past_cell past_frozen past_tape
theorem edge_of {a b c : Int} (h : edgeB a b c = true) : ∃ D, Edge D a b c ∧ D ≤ 2000 ∧ ∀ r : Int, r * r ≠ D := by
  obtain ⟨b1, b2, b3⟩ := formB_bd (edgeB_form h)
  have hD := discW_eq b1 b2 b3
  simp only [edgeB, rivB, Bool.and_eq_true, decide_eq_true_eq, Bool.not_eq_true'] at h
  obtain ⟨⟨⟨⟨⟨_, h1⟩, h2⟩, h3⟩, h4⟩, h5⟩ := h
  refine ⟨discW a b c, ⟨h4, h5, hD.symm⟩, h2, fun r hr => ?_⟩
  have hn : ((r.natAbs : Int)) * (r.natAbs : Int) = r * r := by
    have := Int.natAbs_mul_self (a := r)
    omega
  have hq : isqrt (discW a b c) = (r.natAbs : Int) := by
    refine isqrt_unique (by omega) (by omega) ?_
    have : ((r.natAbs : Int) + 1) * ((r.natAbs : Int) + 1) = (r.natAbs : Int) * (r.natAbs : Int) + 2 * (r.natAbs : Int) + 1 := by grind
    omega
  have : sqB (discW a b c) = true := by
    unfold sqB
    rw [hq, hn, hr]
    simp; omega
  rw [this] at h3
  cases h3
theorem fS_size (x y z : Int) : (fS x y z).size = 1 := by unfold fS; split <;> rfl
theorem fS_empty (x y z : Int) : (⟨[].toArray⟩ : ByteArray) ++ fS x y z = fS x y z := by
  unfold fS
  split
  · rw [ByteArray.mk_append_mk]; simp
  · rw [ByteArray.mk_append_mk]; simp
theorem rword_add {k : Nat} {a b c p q r : Int} (h : rit k a b c = (p, q, r)) : (⟨(rword k a b c).toArray⟩ : ByteArray) ++ fS p q r = ⟨(rword (k + 1) a b c).toArray⟩ := by
  rw [rword_succ, h]
  unfold fS
  by_cases h0 : 0 < p + q + r
  · simp only [if_pos h0]; rw [ByteArray.mk_append_mk]; (try simp)
  · simp only [if_neg h0]; rw [ByteArray.mk_append_mk]; (try simp)
theorem rw_size (k : Nat) (a b c : Int) : (ByteArray.mk (rword k a b c).toArray).size = k := by
  show (rword k a b c).toArray.size = k
  simp [rword_length]
theorem rit_next {k : Nat} {a b c p q r : Int} (h : rit k a b c = (p, q, r)) : rit (k + 1) a b c = (fA p q r, fB p q r, fC p q r) := by rw [rit, h]
def rwS (a b c : Int) : ByteArray := ⟨(rword (rper a b c) a b c).toArray⟩
/-- What the loop's memory holds. -/
structure RWs (w wr : World) (G : Nat) (a b c p q r : Int) : Prop where
  hG : ∀ o, wr.cell? ⟨G, o, none⟩ = (#[.int .i64 p, .int .i64 q, .int .i64 r] : Array Value)[o]?
  hGf : ∀ o, wr.frozen? ⟨G, o, none⟩ = false
  hF : ∀ o, wr.cell? ⟨w.heap.size, o, none⟩ = (#[.int .i64 a, .int .i64 b, .int .i64 c] : Array Value)[o]?
  sz : G < wr.heap.size
  lt : w.heap.size < G
  below : Below w.heap.size w wr
theorem RWs.set {w wr w3 : World} {G : Nat} {a b c p q r : Int} (hB3 : Below wr.heap.size wr w3) (h : RWs w wr G a b c p q r) (x y z : Int) :
    RWs w (((w3.setCell ⟨G, 0, none⟩ (.int .i64 x)).setCell ⟨G, 1, none⟩ (.int .i64 y)).setCell ⟨G, 2, none⟩ (.int .i64 z)) G a b c x y z := by
  have hz := hB3.size
  have hsz := h.sz
  have hlt := h.lt
  have e3 : ∀ o, w3.cell? ⟨G, o, none⟩ = (#[.int .i64 p, .int .i64 q, .int .i64 r] : Array Value)[o]? := fun o => by rw [bG hB3 hsz, h.hG]
  refine ⟨fun i => ?_, fun i => ?_, fun i => ?_, ?_, hlt, ?_⟩
  · match i with
    | 0 => rw [set_other _ _ _ _ _ _ (by omega), set_other _ _ _ _ _ _ (by omega), set_same _ _ _ _ _ (e3 0)]; rfl
    | 1 => rw [set_other _ _ _ _ _ _ (by omega), set_same _ _ _ _ (.int .i64 q) (by rw [set_other _ _ _ _ _ _ (by omega), e3]; rfl)]; rfl
    | 2 => rw [set_same _ _ _ _ (.int .i64 r) (by rw [set_other _ _ _ _ _ _ (by omega), set_other _ _ _ _ _ _ (by omega), e3]; rfl)]; rfl
    | n + 3 => rw [set_other _ _ _ _ _ _ (by omega), set_other _ _ _ _ _ _ (by omega), set_other _ _ _ _ _ _ (by omega), e3]; rfl
  · simp [go_sem, fG hB3 hsz, h.hGf]
  · rw [set_other _ _ _ _ _ _ (by omega), set_other _ _ _ _ _ _ (by omega), set_other _ _ _ _ _ _ (by omega), bG hB3 (by omega), h.hF]
  · simp; omega
  · have hb := h.below
    have hbs := hb.size
    repeat (first | with_reducible exact Below.refl _ _ | with_reducible assumption | ((with_reducible refine blA ?_ ?_); (focus (first | omega | (simp <;> omega)))) | (with_reducible refine blD ?_) | (with_reducible refine blN ?_) | ((with_reducible refine blS ?_ ?_); (focus (first | omega | (simp <;> omega)))) | ((with_reducible refine blT (by assumption) ?_ ?_); (focus (first | omega | (simp <;> omega)))))
theorem RWs.alloc {w wr : World} {G : Nat} {a b c p q r : Int} (h : RWs w wr G a b c p q r) (o : Obj) : RWs w (wr.alloc o) G a b c p q r := by
  have hsz := h.sz
  have hlt := h.lt
  refine ⟨fun i => ?_, fun i => ?_, fun i => ?_, by simp; omega, hlt, ?_⟩
  · rw [cell_alloc_old _ _ _ _ hsz, h.hG]
  · rw [frozen_alloc_old _ _ _ _ hsz, h.hGf]
  · rw [cell_alloc_old _ _ _ _ (by omega), h.hF]
  · have hb := h.below
    have hbs := hb.size
    repeat (first | with_reducible exact Below.refl _ _ | with_reducible assumption | ((with_reducible refine blA ?_ ?_); (focus (first | omega | (simp <;> omega)))) | (with_reducible refine blD ?_) | (with_reducible refine blN ?_) | ((with_reducible refine blS ?_ ?_); (focus (first | omega | (simp <;> omega)))) | ((with_reducible refine blT (by assumption) ?_ ?_); (focus (first | omega | (simp <;> omega)))))
theorem RWs.next {w wr w3 : World} {G : Nat} {a b c p q r : Int} (hB3 : Below wr.heap.size wr w3) (h : RWs w wr G a b c p q r) (x y z : Int) (o : Obj) :
    RWs w ((((w3.setCell ⟨G, 0, none⟩ (.int .i64 x)).setCell ⟨G, 1, none⟩ (.int .i64 y)).setCell ⟨G, 2, none⟩ (.int .i64 z)).alloc o) G a b c x y z := (RWs.set hB3 h x y z).alloc o
theorem RWs.start {w w2 : World} {a b c : Int} (hF : ∀ o, w2.cell? ⟨w.heap.size, o, none⟩ = (#[.int .i64 a, .int .i64 b, .int .i64 c] : Array Value)[o]?) (hz : w.heap.size < w2.heap.size) (hb : Below w.heap.size w w2) (x y z : Int) (T : TypeId) :
    RWs w (w2.alloc (.cells #[.int .i64 x, .int .i64 y, .int .i64 z] T)) w2.heap.size a b c x y z := by
  refine ⟨fun i => by simp [go_sem], fun i => by simp [go_sem], fun i => ?_, by simp, hz, hb.alloc (by omega) _⟩
  rw [cell_alloc_old _ _ _ _ hz, hF]
set_option maxRecDepth 100000 in
set_option maxHeartbeats 2000000 in
theorem implRiverWord_any (a b c : Int) (w : World) :
    Calls Try.prog 21 #[.agg #[.int .i64 a, .int .i64 b, .int .i64 c]] w fun en w' => en = .returned (.tuple #[.string (rzS (edgeB a b c) (rwS a b c)), .bool (edgeB a b c)]) ∧ Below w.heap.size w w' := by
  by_cases c1 : edgeB a b c = true
  · obtain ⟨b1, b2, b3⟩ := formB_bd (edgeB_form c1)
    obtain ⟨D, hE, hD, hsq⟩ := edge_of c1
    obtain ⟨n, hn1, hn2, hn⟩ := rit_period hE hsq hD
    have Hn := Lib.hid hn
    have Hsq := Lib.hid hsq
    have HE := Lib.hid hE
    clear hn hsq hE
    go_enter Try.func21, Try.ntmps21
    go_wp2_with fail
    refine (isRiverEdge_any _ _ _ _).mono ?_
    rintro e1 w1 ⟨rfl, hB1⟩
    obtain ⟨hC1, hF1⟩ := bcell hB1
    have hS1 := hB1.size
    (try simp at hS1)
    (try have hS1_w0 : w.heap.size < w1.heap.size := by omega)
    (try have hS1_w1 : w.heap.size + 1 < w1.heap.size := by omega)
    (try have hS1_w2 : w.heap.size + 1 + 1 < w1.heap.size := by omega)
    (try have hS1_w3 : w.heap.size + 1 + 1 + 1 < w1.heap.size := by omega)
    (try have hS1_w4 : w.heap.size + 1 + 1 + 1 + 1 < w1.heap.size := by omega)
    (try have hL1_w0 : w.heap.size ≤ w1.heap.size := by omega)
    (try have hL1_w1 : w.heap.size + 1 ≤ w1.heap.size := by omega)
    (try have hL1_w2 : w.heap.size + 1 + 1 ≤ w1.heap.size := by omega)
    (try have hL1_w3 : w.heap.size + 1 + 1 + 1 ≤ w1.heap.size := by omega)
    (try have hL1_w : w.heap.size ≤ w1.heap.size + 1 := by omega)
    (try have hM1_1 : w.heap.size < w1.heap.size + 1 := by omega)
    (try have hM1_2 : w.heap.size < w1.heap.size + 1 + 1 := by omega)
    (try have hM1_3 : w.heap.size < w1.heap.size + 1 + 1 + 1 := by omega)
    go_wp2_with fail
    refine (riverStep_any _ _ _ _ b1 b2 b3).mono ?_
    rintro e2 w2 ⟨rfl, hB2⟩
    obtain ⟨hC2, hF2⟩ := bcell hB2
    have hS2 := hB2.size
    (try simp at hS2)
    (try have hS2_w0 : w.heap.size < w2.heap.size := by omega)
    (try have hS2_w1 : w.heap.size + 1 < w2.heap.size := by omega)
    (try have hS2_w2 : w.heap.size + 1 + 1 < w2.heap.size := by omega)
    (try have hS2_w3 : w.heap.size + 1 + 1 + 1 < w2.heap.size := by omega)
    (try have hS2_w4 : w.heap.size + 1 + 1 + 1 + 1 < w2.heap.size := by omega)
    (try have hL2_w0 : w.heap.size ≤ w2.heap.size := by omega)
    (try have hL2_w1 : w.heap.size + 1 ≤ w2.heap.size := by omega)
    (try have hL2_w2 : w.heap.size + 1 + 1 ≤ w2.heap.size := by omega)
    (try have hL2_w3 : w.heap.size + 1 + 1 + 1 ≤ w2.heap.size := by omega)
    (try have hL2_w : w.heap.size ≤ w2.heap.size + 1 := by omega)
    (try have hM2_1 : w.heap.size < w2.heap.size + 1 := by omega)
    (try have hM2_2 : w.heap.size < w2.heap.size + 1 + 1 := by omega)
    (try have hM2_3 : w.heap.size < w2.heap.size + 1 + 1 + 1 := by omega)
    (try have hN2_1_00 : w1.heap.size < w2.heap.size := by omega)
    (try have hN2_1_01 : w1.heap.size < w2.heap.size + 1 := by omega)
    (try have hN2_1_02 : w1.heap.size < w2.heap.size + 1 + 1 := by omega)
    (try have hN2_1_10 : w1.heap.size + 1 < w2.heap.size := by omega)
    (try have hN2_1_11 : w1.heap.size + 1 < w2.heap.size + 1 := by omega)
    (try have hN2_1_12 : w1.heap.size + 1 < w2.heap.size + 1 + 1 := by omega)
    (try have hN2_1_20 : w1.heap.size + 1 + 1 < w2.heap.size := by omega)
    (try have hN2_1_21 : w1.heap.size + 1 + 1 < w2.heap.size + 1 := by omega)
    (try have hN2_1_22 : w1.heap.size + 1 + 1 < w2.heap.size + 1 + 1 := by omega)
    (try have hL2_1 : w1.heap.size ≤ w2.heap.size := by omega)
    (try have hS2_1 : w1.heap.size < w2.heap.size := by omega)
    (try have hS2_1' : w1.heap.size + 1 < w2.heap.size := by omega)
    go_wp2
    go_loopw [5] (fun s wr => ∃ k : Nat, ∃ p q r : Int, 1 ≤ k ∧ k ≤ n ∧ s = .string ⟨(rword k a b c).toArray⟩ ∧ Hid (rit k a b c = (p, q, r)) ∧ Hid (∀ j, 1 ≤ j → j < k → rit j a b c ≠ (a, b, c)) ∧ RWs w wr w2.heap.size a b c p q r) (fun s _ => match s with | .string x => n - x.size | _ => 0)
    case atStart =>
      go_light
      refine ⟨1, _, _, _, by omega, by omega, ?_, rfl, (fun j h1 h2 => absurd h2 (by omega)), ?_⟩
      · have := rword_add (k := 0) (a := a) (b := b) (c := c) (p := a) (q := b) (r := c) rfl
        rw [← this]
        simp only [rword, List.range_zero, List.map_nil]
        rw [fS_empty]
      · refine RWs.start ?_ (by omega) ?_ _ _ _ _
        · intro o
          rw [bG hB2 (by omega), bG hB1 (by simp)]
          simp [go_sem]
        · repeat (first | with_reducible exact Below.refl _ _ | with_reducible assumption | ((with_reducible refine blA ?_ ?_); (focus (first | omega | (simp <;> omega)))) | (with_reducible refine blD ?_) | (with_reducible refine blN ?_) | ((with_reducible refine blS ?_ ?_); (focus (first | omega | (simp <;> omega)))) | ((with_reducible refine blT (by assumption) ?_ ?_); (focus (first | omega | (simp <;> omega)))))
    case round =>
      obtain ⟨k, p, q, r, hk1, hk2, rfl, hrit, hbef, hw⟩ := hrel
      have hw0 := hw
      obtain ⟨hG, hGf, hF, hsz, hlt, hbel⟩ := hw
      have HB := Lib.hid hbel
      clear hbel
      by_cases hc : p = a ∧ q = b ∧ r = c
      · obtain ⟨h1, h2, h3⟩ := hc
        rw [h1, h2, h3] at hG
        have hper : Hid (rper a b c = k) := rper_eq hk1 (by omega) (by rw [hrit.out, h1, h2, h3]) hbef.out
        go_wp2
        go_ret2
        refine ⟨?_, ?_⟩
        · go_light
          rw [c1]
          unfold rzS rwS
          rw [hper.out]
          rfl
        · have hB := HB.out
          repeat (first | with_reducible exact Below.refl _ _ | with_reducible assumption | ((with_reducible refine blA ?_ ?_); (focus (first | omega | (simp <;> omega)))) | (with_reducible refine blD ?_) | (with_reducible refine blN ?_) | ((with_reducible refine blS ?_ ?_); (focus (first | omega | (simp <;> omega)))) | ((with_reducible refine blT (by assumption) ?_ ?_); (focus (first | omega | (simp <;> omega)))))
      · have hlt' : k < n := by
          refine Nat.lt_of_le_of_ne hk2 fun e => hc ?_
          have e2 := hrit.out
          rw [e, Hn.out] at e2
          simp only [Prod.mk.injEq] at e2
          exact ⟨e2.1.symm, e2.2.1.symm, e2.2.2.symm⟩
        have HC := Lib.hid hc
        have hadd : ∀ (x y z : Int) (w0 : World), (Op.stringOp .add ⟨(rword k a b c).toArray⟩ (fS x y z)).run Try.prog w0 = .ok (.string (⟨(rword k a b c).toArray⟩ ++ fS x y z)) w0 := fun x y z w0 => by
          rw [run_string_add_sum w0 _ _ (by rw [fS_size]; show (rword k a b c).toArray.size + 1 ≤ _; simp [rword_length]; omega)]
        have hpE := rit_edge HE.out Hsq.out k
        rw [hrit.out] at hpE
        obtain ⟨q1, q2, q3, q4⟩ := hpE.bd hD
        have q5 := hpE.pos
        have q6 := hpE.neg
        have p1 : Bd 1000000 p := ⟨by simp only at *; omega, by simp only at *; omega⟩
        have p2 : Bd 1000000 q := ⟨by simp only at *; omega, by simp only at *; omega⟩
        have p3 : Bd 1000000 r := ⟨by simp only at *; omega, by simp only at *; omega⟩
        clear hpE q1 q2 q3 q4 q5 q6
        clear hc
        by_cases e1 : p = a
        · subst e1
          by_cases e2 : q = b
          · subst e2
            have e3 : ¬ r = c := fun e => HC.out ⟨rfl, rfl, e⟩
            go_wp2_with fail
            refine (riverStep_any _ _ _ _ (by assumption) (by assumption) (by assumption)).mono ?_
            rintro e3 w3 ⟨rfl, hB3⟩
            obtain ⟨hC3, hF3⟩ := bcell hB3
            have hS3 := hB3.size
            (try simp at hS3)
            (try have hS3_w0 : w.heap.size < w3.heap.size := by omega)
            (try have hS3_w1 : w.heap.size + 1 < w3.heap.size := by omega)
            (try have hS3_w2 : w.heap.size + 1 + 1 < w3.heap.size := by omega)
            (try have hS3_w3 : w.heap.size + 1 + 1 + 1 < w3.heap.size := by omega)
            (try have hS3_w4 : w.heap.size + 1 + 1 + 1 + 1 < w3.heap.size := by omega)
            (try have hL3_w0 : w.heap.size ≤ w3.heap.size := by omega)
            (try have hL3_w1 : w.heap.size + 1 ≤ w3.heap.size := by omega)
            (try have hL3_w2 : w.heap.size + 1 + 1 ≤ w3.heap.size := by omega)
            (try have hL3_w3 : w.heap.size + 1 + 1 + 1 ≤ w3.heap.size := by omega)
            (try have hL3_w : w.heap.size ≤ w3.heap.size + 1 := by omega)
            (try have hM3_1 : w.heap.size < w3.heap.size + 1 := by omega)
            (try have hM3_2 : w.heap.size < w3.heap.size + 1 + 1 := by omega)
            (try have hM3_3 : w.heap.size < w3.heap.size + 1 + 1 + 1 := by omega)
            (try have hN3_1_00 : w1.heap.size < w3.heap.size := by omega)
            (try have hN3_1_01 : w1.heap.size < w3.heap.size + 1 := by omega)
            (try have hN3_1_02 : w1.heap.size < w3.heap.size + 1 + 1 := by omega)
            (try have hN3_1_10 : w1.heap.size + 1 < w3.heap.size := by omega)
            (try have hN3_1_11 : w1.heap.size + 1 < w3.heap.size + 1 := by omega)
            (try have hN3_1_12 : w1.heap.size + 1 < w3.heap.size + 1 + 1 := by omega)
            (try have hN3_1_20 : w1.heap.size + 1 + 1 < w3.heap.size := by omega)
            (try have hN3_1_21 : w1.heap.size + 1 + 1 < w3.heap.size + 1 := by omega)
            (try have hN3_1_22 : w1.heap.size + 1 + 1 < w3.heap.size + 1 + 1 := by omega)
            (try have hN3_2_00 : w2.heap.size < w3.heap.size := by omega)
            (try have hN3_2_01 : w2.heap.size < w3.heap.size + 1 := by omega)
            (try have hN3_2_02 : w2.heap.size < w3.heap.size + 1 + 1 := by omega)
            (try have hN3_2_10 : w2.heap.size + 1 < w3.heap.size := by omega)
            (try have hN3_2_11 : w2.heap.size + 1 < w3.heap.size + 1 := by omega)
            (try have hN3_2_12 : w2.heap.size + 1 < w3.heap.size + 1 + 1 := by omega)
            (try have hN3_2_20 : w2.heap.size + 1 + 1 < w3.heap.size := by omega)
            (try have hN3_2_21 : w2.heap.size + 1 + 1 < w3.heap.size + 1 := by omega)
            (try have hN3_2_22 : w2.heap.size + 1 + 1 < w3.heap.size + 1 + 1 := by omega)
            (try have hL3_1 : w1.heap.size ≤ w3.heap.size := by omega)
            (try have hL3_2 : w2.heap.size ≤ w3.heap.size := by omega)
            (try have hS3_1 : w1.heap.size < w3.heap.size := by omega)
            (try have hS3_1' : w1.heap.size + 1 < w3.heap.size := by omega)
            (try have hS3_2 : w2.heap.size < w3.heap.size := by omega)
            (try have hS3_2' : w2.heap.size + 1 < w3.heap.size := by omega)
            go_wp2
            go_roundw
            case rel =>
              go_light
              refine ⟨k + 1, _, _, _, by omega, by omega, by rw [rword_add hrit.out], rit_next hrit.out, ?_, RWs.next hB3 hw0 _ _ _ _⟩
              intro j h1 h2 h3
              by_cases e : j = k
              · subst e
                rw [hrit.out] at h3
                simp only [Prod.mk.injEq] at h3
                exact HC.out ⟨h3.1, h3.2.1, h3.2.2⟩
              · exact hbef.out j h1 (by omega) h3
            case measure =>
              show n - ((⟨(rword k _ _ _).toArray⟩ : ByteArray) ++ fS _ _ _).size < n - (ByteArray.mk (rword k _ _ _).toArray).size
              rw [ByteArray.size_append, fS_size, rw_size]
              omega
          · go_wp2_with fail
            refine (riverStep_any _ _ _ _ (by assumption) (by assumption) (by assumption)).mono ?_
            rintro e4 w4 ⟨rfl, hB4⟩
            obtain ⟨hC4, hF4⟩ := bcell hB4
            have hS4 := hB4.size
            (try simp at hS4)
            (try have hS4_w0 : w.heap.size < w4.heap.size := by omega)
            (try have hS4_w1 : w.heap.size + 1 < w4.heap.size := by omega)
            (try have hS4_w2 : w.heap.size + 1 + 1 < w4.heap.size := by omega)
            (try have hS4_w3 : w.heap.size + 1 + 1 + 1 < w4.heap.size := by omega)
            (try have hS4_w4 : w.heap.size + 1 + 1 + 1 + 1 < w4.heap.size := by omega)
            (try have hL4_w0 : w.heap.size ≤ w4.heap.size := by omega)
            (try have hL4_w1 : w.heap.size + 1 ≤ w4.heap.size := by omega)
            (try have hL4_w2 : w.heap.size + 1 + 1 ≤ w4.heap.size := by omega)
            (try have hL4_w3 : w.heap.size + 1 + 1 + 1 ≤ w4.heap.size := by omega)
            (try have hL4_w : w.heap.size ≤ w4.heap.size + 1 := by omega)
            (try have hM4_1 : w.heap.size < w4.heap.size + 1 := by omega)
            (try have hM4_2 : w.heap.size < w4.heap.size + 1 + 1 := by omega)
            (try have hM4_3 : w.heap.size < w4.heap.size + 1 + 1 + 1 := by omega)
            (try have hN4_1_00 : w1.heap.size < w4.heap.size := by omega)
            (try have hN4_1_01 : w1.heap.size < w4.heap.size + 1 := by omega)
            (try have hN4_1_02 : w1.heap.size < w4.heap.size + 1 + 1 := by omega)
            (try have hN4_1_10 : w1.heap.size + 1 < w4.heap.size := by omega)
            (try have hN4_1_11 : w1.heap.size + 1 < w4.heap.size + 1 := by omega)
            (try have hN4_1_12 : w1.heap.size + 1 < w4.heap.size + 1 + 1 := by omega)
            (try have hN4_1_20 : w1.heap.size + 1 + 1 < w4.heap.size := by omega)
            (try have hN4_1_21 : w1.heap.size + 1 + 1 < w4.heap.size + 1 := by omega)
            (try have hN4_1_22 : w1.heap.size + 1 + 1 < w4.heap.size + 1 + 1 := by omega)
            (try have hN4_2_00 : w2.heap.size < w4.heap.size := by omega)
            (try have hN4_2_01 : w2.heap.size < w4.heap.size + 1 := by omega)
            (try have hN4_2_02 : w2.heap.size < w4.heap.size + 1 + 1 := by omega)
            (try have hN4_2_10 : w2.heap.size + 1 < w4.heap.size := by omega)
            (try have hN4_2_11 : w2.heap.size + 1 < w4.heap.size + 1 := by omega)
            (try have hN4_2_12 : w2.heap.size + 1 < w4.heap.size + 1 + 1 := by omega)
            (try have hN4_2_20 : w2.heap.size + 1 + 1 < w4.heap.size := by omega)
            (try have hN4_2_21 : w2.heap.size + 1 + 1 < w4.heap.size + 1 := by omega)
            (try have hN4_2_22 : w2.heap.size + 1 + 1 < w4.heap.size + 1 + 1 := by omega)
            (try have hN4_3_00 : w3.heap.size < w4.heap.size := by omega)
            (try have hN4_3_01 : w3.heap.size < w4.heap.size + 1 := by omega)
            (try have hN4_3_02 : w3.heap.size < w4.heap.size + 1 + 1 := by omega)
            (try have hN4_3_10 : w3.heap.size + 1 < w4.heap.size := by omega)
            (try have hN4_3_11 : w3.heap.size + 1 < w4.heap.size + 1 := by omega)
            (try have hN4_3_12 : w3.heap.size + 1 < w4.heap.size + 1 + 1 := by omega)
            (try have hN4_3_20 : w3.heap.size + 1 + 1 < w4.heap.size := by omega)
            (try have hN4_3_21 : w3.heap.size + 1 + 1 < w4.heap.size + 1 := by omega)
            (try have hN4_3_22 : w3.heap.size + 1 + 1 < w4.heap.size + 1 + 1 := by omega)
            (try have hL4_1 : w1.heap.size ≤ w4.heap.size := by omega)
            (try have hL4_2 : w2.heap.size ≤ w4.heap.size := by omega)
            (try have hL4_3 : w3.heap.size ≤ w4.heap.size := by omega)
            (try have hS4_1 : w1.heap.size < w4.heap.size := by omega)
            (try have hS4_1' : w1.heap.size + 1 < w4.heap.size := by omega)
            (try have hS4_2 : w2.heap.size < w4.heap.size := by omega)
            (try have hS4_2' : w2.heap.size + 1 < w4.heap.size := by omega)
            (try have hS4_3 : w3.heap.size < w4.heap.size := by omega)
            (try have hS4_3' : w3.heap.size + 1 < w4.heap.size := by omega)
            go_wp2
            go_roundw
            case rel =>
              go_light
              refine ⟨k + 1, _, _, _, by omega, by omega, by rw [rword_add hrit.out], rit_next hrit.out, ?_, RWs.next hB4 hw0 _ _ _ _⟩
              intro j h1 h2 h3
              by_cases e : j = k
              · subst e
                rw [hrit.out] at h3
                simp only [Prod.mk.injEq] at h3
                exact HC.out ⟨h3.1, h3.2.1, h3.2.2⟩
              · exact hbef.out j h1 (by omega) h3
            case measure =>
              show n - ((⟨(rword k _ _ _).toArray⟩ : ByteArray) ++ fS _ _ _).size < n - (ByteArray.mk (rword k _ _ _).toArray).size
              rw [ByteArray.size_append, fS_size, rw_size]
              omega
        · go_wp2_with fail
          refine (riverStep_any _ _ _ _ (by assumption) (by assumption) (by assumption)).mono ?_
          rintro e5 w5 ⟨rfl, hB5⟩
          obtain ⟨hC5, hF5⟩ := bcell hB5
          have hS5 := hB5.size
          (try simp at hS5)
          (try have hS5_w0 : w.heap.size < w5.heap.size := by omega)
          (try have hS5_w1 : w.heap.size + 1 < w5.heap.size := by omega)
          (try have hS5_w2 : w.heap.size + 1 + 1 < w5.heap.size := by omega)
          (try have hS5_w3 : w.heap.size + 1 + 1 + 1 < w5.heap.size := by omega)
          (try have hS5_w4 : w.heap.size + 1 + 1 + 1 + 1 < w5.heap.size := by omega)
          (try have hL5_w0 : w.heap.size ≤ w5.heap.size := by omega)
          (try have hL5_w1 : w.heap.size + 1 ≤ w5.heap.size := by omega)
          (try have hL5_w2 : w.heap.size + 1 + 1 ≤ w5.heap.size := by omega)
          (try have hL5_w3 : w.heap.size + 1 + 1 + 1 ≤ w5.heap.size := by omega)
          (try have hL5_w : w.heap.size ≤ w5.heap.size + 1 := by omega)
          (try have hM5_1 : w.heap.size < w5.heap.size + 1 := by omega)
          (try have hM5_2 : w.heap.size < w5.heap.size + 1 + 1 := by omega)
          (try have hM5_3 : w.heap.size < w5.heap.size + 1 + 1 + 1 := by omega)
          (try have hN5_2_00 : w2.heap.size < w5.heap.size := by omega)
          (try have hN5_2_01 : w2.heap.size < w5.heap.size + 1 := by omega)
          (try have hN5_2_02 : w2.heap.size < w5.heap.size + 1 + 1 := by omega)
          (try have hN5_2_10 : w2.heap.size + 1 < w5.heap.size := by omega)
          (try have hN5_2_11 : w2.heap.size + 1 < w5.heap.size + 1 := by omega)
          (try have hN5_2_12 : w2.heap.size + 1 < w5.heap.size + 1 + 1 := by omega)
          (try have hN5_2_20 : w2.heap.size + 1 + 1 < w5.heap.size := by omega)
          (try have hN5_2_21 : w2.heap.size + 1 + 1 < w5.heap.size + 1 := by omega)
          (try have hN5_2_22 : w2.heap.size + 1 + 1 < w5.heap.size + 1 + 1 := by omega)
          (try have hN5_3_00 : w3.heap.size < w5.heap.size := by omega)
          (try have hN5_3_01 : w3.heap.size < w5.heap.size + 1 := by omega)
          (try have hN5_3_02 : w3.heap.size < w5.heap.size + 1 + 1 := by omega)
          (try have hN5_3_10 : w3.heap.size + 1 < w5.heap.size := by omega)
          (try have hN5_3_11 : w3.heap.size + 1 < w5.heap.size + 1 := by omega)
          (try have hN5_3_12 : w3.heap.size + 1 < w5.heap.size + 1 + 1 := by omega)
          (try have hN5_3_20 : w3.heap.size + 1 + 1 < w5.heap.size := by omega)
          (try have hN5_3_21 : w3.heap.size + 1 + 1 < w5.heap.size + 1 := by omega)
          (try have hN5_3_22 : w3.heap.size + 1 + 1 < w5.heap.size + 1 + 1 := by omega)
          (try have hN5_4_00 : w4.heap.size < w5.heap.size := by omega)
          (try have hN5_4_01 : w4.heap.size < w5.heap.size + 1 := by omega)
          (try have hN5_4_02 : w4.heap.size < w5.heap.size + 1 + 1 := by omega)
          (try have hN5_4_10 : w4.heap.size + 1 < w5.heap.size := by omega)
          (try have hN5_4_11 : w4.heap.size + 1 < w5.heap.size + 1 := by omega)
          (try have hN5_4_12 : w4.heap.size + 1 < w5.heap.size + 1 + 1 := by omega)
          (try have hN5_4_20 : w4.heap.size + 1 + 1 < w5.heap.size := by omega)
          (try have hN5_4_21 : w4.heap.size + 1 + 1 < w5.heap.size + 1 := by omega)
          (try have hN5_4_22 : w4.heap.size + 1 + 1 < w5.heap.size + 1 + 1 := by omega)
          (try have hL5_1 : w1.heap.size ≤ w5.heap.size := by omega)
          (try have hL5_2 : w2.heap.size ≤ w5.heap.size := by omega)
          (try have hL5_3 : w3.heap.size ≤ w5.heap.size := by omega)
          (try have hL5_4 : w4.heap.size ≤ w5.heap.size := by omega)
          (try have hS5_1 : w1.heap.size < w5.heap.size := by omega)
          (try have hS5_1' : w1.heap.size + 1 < w5.heap.size := by omega)
          (try have hS5_2 : w2.heap.size < w5.heap.size := by omega)
          (try have hS5_2' : w2.heap.size + 1 < w5.heap.size := by omega)
          (try have hS5_3 : w3.heap.size < w5.heap.size := by omega)
          (try have hS5_3' : w3.heap.size + 1 < w5.heap.size := by omega)
          (try have hS5_4 : w4.heap.size < w5.heap.size := by omega)
          (try have hS5_4' : w4.heap.size + 1 < w5.heap.size := by omega)
          go_wp2
          go_roundw
          case rel =>
            go_light
            refine ⟨k + 1, _, _, _, by omega, by omega, by rw [rword_add hrit.out], rit_next hrit.out, ?_, RWs.next hB5 hw0 _ _ _ _⟩
            intro j h1 h2 h3
            by_cases e : j = k
            · subst e
              rw [hrit.out] at h3
              simp only [Prod.mk.injEq] at h3
              exact HC.out ⟨h3.1, h3.2.1, h3.2.2⟩
            · exact hbef.out j h1 (by omega) h3
          case measure =>
            show n - ((⟨(rword k _ _ _).toArray⟩ : ByteArray) ++ fS _ _ _).size < n - (ByteArray.mk (rword k _ _ _).toArray).size
            rw [ByteArray.size_append, fS_size, rw_size]
            omega
  · have c1' : edgeB a b c = false := by simpa using c1
    have hs : Hid (rzS (edgeB a b c) (rwS a b c) = ⟨#[]⟩) := by show _ = _; rw [c1']; rfl
    clear c1
    go_enter Try.func21, Try.ntmps21
    go_wp2_with (go_at_call 39; refine (isRiverEdge_any _ _ _ _).mono ?_; rintro e w' ⟨rfl, hB⟩; obtain ⟨hC, hF⟩ := bcell hB; have hS := hB.size; (try simp at hS); (try have hSl := Nat.lt_of_succ_le hS); (try have hS0 : w.heap.size < w'.heap.size := by omega); (try have hS1 : w.heap.size + 1 < w'.heap.size := by omega); (try have hS2 : w.heap.size + 1 + 1 < w'.heap.size := by omega); (try have hS3 : w.heap.size + 1 + 1 + 1 < w'.heap.size := by omega))
    go_ret2
    refine ⟨?_, ?_⟩
    · go_light
      rw [hs.out, c1']
      rfl
    · repeat (first | with_reducible exact Below.refl _ _ | with_reducible assumption | ((with_reducible refine blA ?_ ?_); (focus (first | omega | (simp <;> omega)))) | (with_reducible refine blD ?_) | (with_reducible refine blN ?_) | ((with_reducible refine blS ?_ ?_); (focus (first | omega | (simp <;> omega)))) | ((with_reducible refine blT (by assumption) ?_ ?_); (focus (first | omega | (simp <;> omega)))))
set_option maxRecDepth 100000 in
set_option maxHeartbeats 8000000 in
theorem tpWord_any (a b c : Int) (w : World) (c1 : edgeB a b c = true) :
    Calls Try.prog 41 #[.agg #[.int .i64 a, .int .i64 b, .int .i64 c]] w fun en w' => en = .returned (.string (rwS a b c)) ∧ Below w.heap.size w w' := by
    obtain ⟨b1, b2, b3⟩ := formB_bd (edgeB_form c1)
    obtain ⟨D, hE, hD, hsq⟩ := edge_of c1
    obtain ⟨n, hn1, hn2, hn⟩ := rit_period hE hsq hD
    have Hn := Lib.hid hn
    have Hsq := Lib.hid hsq
    have HE := Lib.hid hE
    clear hn hsq hE
    by_cases hs : 0 < a + b + c
    · have hd : decide (0 < a + b + c) = true := by simp [hs]
      have hS' : Hid (fS a b c = ⟨#[112]⟩) := by show _ = _; rw [fS, if_pos hs]
      clear hs
      go_enter Try.func41, Try.ntmps41
      go_wp2_with fail
      refine (tpFlow_any _ _ _ _ b1 b2 b3).mono ?_
      rintro e1 w1 ⟨rfl, hB1⟩
      obtain ⟨hC1, hF1⟩ := bcell hB1
      have hS1 := hB1.size
      (try simp at hS1)
      (try have hS1_w0 : w.heap.size < w1.heap.size := by omega)
      (try have hS1_w1 : w.heap.size + 1 < w1.heap.size := by omega)
      (try have hS1_w2 : w.heap.size + 1 + 1 < w1.heap.size := by omega)
      (try have hS1_w3 : w.heap.size + 1 + 1 + 1 < w1.heap.size := by omega)
      (try have hS1_w4 : w.heap.size + 1 + 1 + 1 + 1 < w1.heap.size := by omega)
      (try have hL1_w0 : w.heap.size ≤ w1.heap.size := by omega)
      (try have hL1_w1 : w.heap.size + 1 ≤ w1.heap.size := by omega)
      (try have hL1_w2 : w.heap.size + 1 + 1 ≤ w1.heap.size := by omega)
      (try have hL1_w3 : w.heap.size + 1 + 1 + 1 ≤ w1.heap.size := by omega)
      (try have hL1_w : w.heap.size ≤ w1.heap.size + 1 := by omega)
      (try have hM1_1 : w.heap.size < w1.heap.size + 1 := by omega)
      (try have hM1_2 : w.heap.size < w1.heap.size + 1 + 1 := by omega)
      (try have hM1_3 : w.heap.size < w1.heap.size + 1 + 1 + 1 := by omega)
      go_wp2
      go_loopw [5] (fun s wr => ∃ k : Nat, ∃ p q r : Int, 1 ≤ k ∧ k ≤ n ∧ s = .string ⟨(rword k a b c).toArray⟩ ∧ Hid (rit k a b c = (p, q, r)) ∧ Hid (∀ j, 1 ≤ j → j < k → rit j a b c ≠ (a, b, c)) ∧ RWs w wr w1.heap.size a b c p q r) (fun s _ => match s with | .string x => n - x.size | _ => 0)
      case atStart =>
        go_light
        refine ⟨1, _, _, _, by omega, by omega, ?_, rfl, (fun j h1 h2 => absurd h2 (by omega)), ?_⟩
        · have := rword_add (k := 0) (a := a) (b := b) (c := c) (p := a) (q := b) (r := c) rfl
          rw [← this]
          simp only [rword, List.range_zero, List.map_nil]
          rw [fS_empty, hS'.out]
        · refine RWs.start ?_ (by omega) ?_ _ _ _ _
          · intro o
            rw [bG hB1 (by simp)]
            simp [go_sem]
          · repeat (first | with_reducible exact Below.refl _ _ | with_reducible assumption | ((with_reducible refine blA ?_ ?_); (focus (first | omega | (simp <;> omega)))) | (with_reducible refine blD ?_) | (with_reducible refine blN ?_) | ((with_reducible refine blS ?_ ?_); (focus (first | omega | (simp <;> omega)))) | ((with_reducible refine blT (by assumption) ?_ ?_); (focus (first | omega | (simp <;> omega)))))
      case round =>
        obtain ⟨k, p, q, r, hk1, hk2, rfl, hrit, hbef, hw⟩ := hrel
        have hw0 := hw
        obtain ⟨hG, hGf, hF, hsz, hlt, hbel⟩ := hw
        have HB := Lib.hid hbel
        clear hbel
        by_cases hc : p = a ∧ q = b ∧ r = c
        · obtain ⟨h1, h2, h3⟩ := hc
          rw [h1, h2, h3] at hG
          have hper : Hid (rper a b c = k) := rper_eq hk1 (by omega) (by rw [hrit.out, h1, h2, h3]) hbef.out
          go_wp2
          go_ret
          refine ⟨?_, ?_⟩
          · go_light
            unfold rwS
            rw [hper.out]
            rfl
          · have hB := HB.out
            repeat (first | with_reducible exact Below.refl _ _ | with_reducible assumption | ((with_reducible refine blA ?_ ?_); (focus (first | omega | (simp <;> omega)))) | (with_reducible refine blD ?_) | (with_reducible refine blN ?_) | ((with_reducible refine blS ?_ ?_); (focus (first | omega | (simp <;> omega)))) | ((with_reducible refine blT (by assumption) ?_ ?_); (focus (first | omega | (simp <;> omega)))))
        · have hlt' : k < n := by
            refine Nat.lt_of_le_of_ne hk2 fun e => hc ?_
            have e2 := hrit.out
            rw [e, Hn.out] at e2
            simp only [Prod.mk.injEq] at e2
            exact ⟨e2.1.symm, e2.2.1.symm, e2.2.2.symm⟩
          have HC := Lib.hid hc
          have hadd1 : ∀ (w0 : World), (Op.stringOp .add ⟨(rword k a b c).toArray⟩ ⟨#[112]⟩).run Try.prog w0 = .ok (.string (⟨(rword k a b c).toArray⟩ ++ ⟨#[112]⟩)) w0 := fun w0 => by
            rw [run_string_add_sum w0 _ _ (by show (rword k a b c).toArray.size + 1 ≤ _; simp [rword_length]; omega)]
          have hadd2 : ∀ (w0 : World), (Op.stringOp .add ⟨(rword k a b c).toArray⟩ ⟨#[110]⟩).run Try.prog w0 = .ok (.string (⟨(rword k a b c).toArray⟩ ++ ⟨#[110]⟩)) w0 := fun w0 => by
            rw [run_string_add_sum w0 _ _ (by show (rword k a b c).toArray.size + 1 ≤ _; simp [rword_length]; omega)]
          have hpE := rit_edge HE.out Hsq.out k
          rw [hrit.out] at hpE
          obtain ⟨q1, q2, q3, q4⟩ := hpE.bd hD
          have q5 := hpE.pos
          have q6 := hpE.neg
          have p1 : Bd 1000000 p := ⟨by simp only at *; omega, by simp only at *; omega⟩
          have p2 : Bd 1000000 q := ⟨by simp only at *; omega, by simp only at *; omega⟩
          have p3 : Bd 1000000 r := ⟨by simp only at *; omega, by simp only at *; omega⟩
          clear hpE q1 q2 q3 q4 q5 q6 hc
          by_cases hs2 : 0 < p + q + r
          · have hd2 : decide (0 < p + q + r) = true := by simp [hs2]
            have hfs : Hid (fS p q r = ⟨#[112]⟩) := by show _ = _; rw [fS, if_pos hs2]
            clear hs2
            by_cases e1 : p = a
            · subst e1
              by_cases e2 : q = b
              · subst e2
                have e3 : ¬ r = c := fun e => HC.out ⟨rfl, rfl, e⟩
                go_wp2_with fail
                refine (tpFlow_any _ _ _ _ (by assumption) (by assumption) (by assumption)).mono ?_
                rintro e2 w2 ⟨rfl, hB2⟩
                obtain ⟨hC2, hF2⟩ := bcell hB2
                have hS2 := hB2.size
                (try simp at hS2)
                (try have hS2_w0 : w.heap.size < w2.heap.size := by omega)
                (try have hS2_w1 : w.heap.size + 1 < w2.heap.size := by omega)
                (try have hS2_w2 : w.heap.size + 1 + 1 < w2.heap.size := by omega)
                (try have hS2_w3 : w.heap.size + 1 + 1 + 1 < w2.heap.size := by omega)
                (try have hS2_w4 : w.heap.size + 1 + 1 + 1 + 1 < w2.heap.size := by omega)
                (try have hL2_w0 : w.heap.size ≤ w2.heap.size := by omega)
                (try have hL2_w1 : w.heap.size + 1 ≤ w2.heap.size := by omega)
                (try have hL2_w2 : w.heap.size + 1 + 1 ≤ w2.heap.size := by omega)
                (try have hL2_w3 : w.heap.size + 1 + 1 + 1 ≤ w2.heap.size := by omega)
                (try have hL2_w : w.heap.size ≤ w2.heap.size + 1 := by omega)
                (try have hM2_1 : w.heap.size < w2.heap.size + 1 := by omega)
                (try have hM2_2 : w.heap.size < w2.heap.size + 1 + 1 := by omega)
                (try have hM2_3 : w.heap.size < w2.heap.size + 1 + 1 + 1 := by omega)
                (try have hN2_1_00 : w1.heap.size < w2.heap.size := by omega)
                (try have hN2_1_01 : w1.heap.size < w2.heap.size + 1 := by omega)
                (try have hN2_1_02 : w1.heap.size < w2.heap.size + 1 + 1 := by omega)
                (try have hN2_1_10 : w1.heap.size + 1 < w2.heap.size := by omega)
                (try have hN2_1_11 : w1.heap.size + 1 < w2.heap.size + 1 := by omega)
                (try have hN2_1_12 : w1.heap.size + 1 < w2.heap.size + 1 + 1 := by omega)
                (try have hN2_1_20 : w1.heap.size + 1 + 1 < w2.heap.size := by omega)
                (try have hN2_1_21 : w1.heap.size + 1 + 1 < w2.heap.size + 1 := by omega)
                (try have hN2_1_22 : w1.heap.size + 1 + 1 < w2.heap.size + 1 + 1 := by omega)
                (try have hL2_1 : w1.heap.size ≤ w2.heap.size := by omega)
                (try have hS2_1 : w1.heap.size < w2.heap.size := by omega)
                (try have hS2_1' : w1.heap.size + 1 < w2.heap.size := by omega)
                go_wp2
                go_roundw
                case rel =>
                  go_light
                  refine ⟨k + 1, _, _, _, by omega, by omega, by rw [← rword_add hrit.out, hfs.out], rit_next hrit.out, ?_, RWs.set hB2 hw0 _ _ _⟩
                  intro j h1 h2 h3
                  by_cases e : j = k
                  · subst e
                    rw [hrit.out] at h3
                    simp only [Prod.mk.injEq] at h3
                    exact HC.out ⟨h3.1, h3.2.1, h3.2.2⟩
                  · exact hbef.out j h1 (by omega) h3
                case measure =>
                  show n - ((⟨(rword k _ _ _).toArray⟩ : ByteArray) ++ ⟨#[112]⟩).size < n - (ByteArray.mk (rword k _ _ _).toArray).size
                  rw [ByteArray.size_append, rw_size]
                  show n - (k + 1) < n - k
                  omega
              · go_wp2_with fail
                refine (tpFlow_any _ _ _ _ (by assumption) (by assumption) (by assumption)).mono ?_
                rintro e3 w3 ⟨rfl, hB3⟩
                obtain ⟨hC3, hF3⟩ := bcell hB3
                have hS3 := hB3.size
                (try simp at hS3)
                (try have hS3_w0 : w.heap.size < w3.heap.size := by omega)
                (try have hS3_w1 : w.heap.size + 1 < w3.heap.size := by omega)
                (try have hS3_w2 : w.heap.size + 1 + 1 < w3.heap.size := by omega)
                (try have hS3_w3 : w.heap.size + 1 + 1 + 1 < w3.heap.size := by omega)
                (try have hS3_w4 : w.heap.size + 1 + 1 + 1 + 1 < w3.heap.size := by omega)
                (try have hL3_w0 : w.heap.size ≤ w3.heap.size := by omega)
                (try have hL3_w1 : w.heap.size + 1 ≤ w3.heap.size := by omega)
                (try have hL3_w2 : w.heap.size + 1 + 1 ≤ w3.heap.size := by omega)
                (try have hL3_w3 : w.heap.size + 1 + 1 + 1 ≤ w3.heap.size := by omega)
                (try have hL3_w : w.heap.size ≤ w3.heap.size + 1 := by omega)
                (try have hM3_1 : w.heap.size < w3.heap.size + 1 := by omega)
                (try have hM3_2 : w.heap.size < w3.heap.size + 1 + 1 := by omega)
                (try have hM3_3 : w.heap.size < w3.heap.size + 1 + 1 + 1 := by omega)
                (try have hN3_1_00 : w1.heap.size < w3.heap.size := by omega)
                (try have hN3_1_01 : w1.heap.size < w3.heap.size + 1 := by omega)
                (try have hN3_1_02 : w1.heap.size < w3.heap.size + 1 + 1 := by omega)
                (try have hN3_1_10 : w1.heap.size + 1 < w3.heap.size := by omega)
                (try have hN3_1_11 : w1.heap.size + 1 < w3.heap.size + 1 := by omega)
                (try have hN3_1_12 : w1.heap.size + 1 < w3.heap.size + 1 + 1 := by omega)
                (try have hN3_1_20 : w1.heap.size + 1 + 1 < w3.heap.size := by omega)
                (try have hN3_1_21 : w1.heap.size + 1 + 1 < w3.heap.size + 1 := by omega)
                (try have hN3_1_22 : w1.heap.size + 1 + 1 < w3.heap.size + 1 + 1 := by omega)
                (try have hN3_2_00 : w2.heap.size < w3.heap.size := by omega)
                (try have hN3_2_01 : w2.heap.size < w3.heap.size + 1 := by omega)
                (try have hN3_2_02 : w2.heap.size < w3.heap.size + 1 + 1 := by omega)
                (try have hN3_2_10 : w2.heap.size + 1 < w3.heap.size := by omega)
                (try have hN3_2_11 : w2.heap.size + 1 < w3.heap.size + 1 := by omega)
                (try have hN3_2_12 : w2.heap.size + 1 < w3.heap.size + 1 + 1 := by omega)
                (try have hN3_2_20 : w2.heap.size + 1 + 1 < w3.heap.size := by omega)
                (try have hN3_2_21 : w2.heap.size + 1 + 1 < w3.heap.size + 1 := by omega)
                (try have hN3_2_22 : w2.heap.size + 1 + 1 < w3.heap.size + 1 + 1 := by omega)
                (try have hL3_1 : w1.heap.size ≤ w3.heap.size := by omega)
                (try have hL3_2 : w2.heap.size ≤ w3.heap.size := by omega)
                (try have hS3_1 : w1.heap.size < w3.heap.size := by omega)
                (try have hS3_1' : w1.heap.size + 1 < w3.heap.size := by omega)
                (try have hS3_2 : w2.heap.size < w3.heap.size := by omega)
                (try have hS3_2' : w2.heap.size + 1 < w3.heap.size := by omega)
                go_wp2
                go_roundw
                case rel =>
                  go_light
                  refine ⟨k + 1, _, _, _, by omega, by omega, by rw [← rword_add hrit.out, hfs.out], rit_next hrit.out, ?_, RWs.set hB3 hw0 _ _ _⟩
                  intro j h1 h2 h3
                  by_cases e : j = k
                  · subst e
                    rw [hrit.out] at h3
                    simp only [Prod.mk.injEq] at h3
                    exact HC.out ⟨h3.1, h3.2.1, h3.2.2⟩
                  · exact hbef.out j h1 (by omega) h3
                case measure =>
                  show n - ((⟨(rword k _ _ _).toArray⟩ : ByteArray) ++ ⟨#[112]⟩).size < n - (ByteArray.mk (rword k _ _ _).toArray).size
                  rw [ByteArray.size_append, rw_size]
                  show n - (k + 1) < n - k
                  omega
            · go_wp2_with fail
              refine (tpFlow_any _ _ _ _ (by assumption) (by assumption) (by assumption)).mono ?_
              rintro e4 w4 ⟨rfl, hB4⟩
              obtain ⟨hC4, hF4⟩ := bcell hB4
              have hS4 := hB4.size
              (try simp at hS4)
              (try have hS4_w0 : w.heap.size < w4.heap.size := by omega)
              (try have hS4_w1 : w.heap.size + 1 < w4.heap.size := by omega)
              (try have hS4_w2 : w.heap.size + 1 + 1 < w4.heap.size := by omega)
              (try have hS4_w3 : w.heap.size + 1 + 1 + 1 < w4.heap.size := by omega)
              (try have hS4_w4 : w.heap.size + 1 + 1 + 1 + 1 < w4.heap.size := by omega)
              (try have hL4_w0 : w.heap.size ≤ w4.heap.size := by omega)
              (try have hL4_w1 : w.heap.size + 1 ≤ w4.heap.size := by omega)
              (try have hL4_w2 : w.heap.size + 1 + 1 ≤ w4.heap.size := by omega)
              (try have hL4_w3 : w.heap.size + 1 + 1 + 1 ≤ w4.heap.size := by omega)
              (try have hL4_w : w.heap.size ≤ w4.heap.size + 1 := by omega)
              (try have hM4_1 : w.heap.size < w4.heap.size + 1 := by omega)
              (try have hM4_2 : w.heap.size < w4.heap.size + 1 + 1 := by omega)
              (try have hM4_3 : w.heap.size < w4.heap.size + 1 + 1 + 1 := by omega)
              (try have hN4_1_00 : w1.heap.size < w4.heap.size := by omega)
              (try have hN4_1_01 : w1.heap.size < w4.heap.size + 1 := by omega)
              (try have hN4_1_02 : w1.heap.size < w4.heap.size + 1 + 1 := by omega)
              (try have hN4_1_10 : w1.heap.size + 1 < w4.heap.size := by omega)
              (try have hN4_1_11 : w1.heap.size + 1 < w4.heap.size + 1 := by omega)
              (try have hN4_1_12 : w1.heap.size + 1 < w4.heap.size + 1 + 1 := by omega)
              (try have hN4_1_20 : w1.heap.size + 1 + 1 < w4.heap.size := by omega)
              (try have hN4_1_21 : w1.heap.size + 1 + 1 < w4.heap.size + 1 := by omega)
              (try have hN4_1_22 : w1.heap.size + 1 + 1 < w4.heap.size + 1 + 1 := by omega)
              (try have hN4_2_00 : w2.heap.size < w4.heap.size := by omega)
              (try have hN4_2_01 : w2.heap.size < w4.heap.size + 1 := by omega)
              (try have hN4_2_02 : w2.heap.size < w4.heap.size + 1 + 1 := by omega)
              (try have hN4_2_10 : w2.heap.size + 1 < w4.heap.size := by omega)
              (try have hN4_2_11 : w2.heap.size + 1 < w4.heap.size + 1 := by omega)
              (try have hN4_2_12 : w2.heap.size + 1 < w4.heap.size + 1 + 1 := by omega)
              (try have hN4_2_20 : w2.heap.size + 1 + 1 < w4.heap.size := by omega)
              (try have hN4_2_21 : w2.heap.size + 1 + 1 < w4.heap.size + 1 := by omega)
              (try have hN4_2_22 : w2.heap.size + 1 + 1 < w4.heap.size + 1 + 1 := by omega)
              (try have hN4_3_00 : w3.heap.size < w4.heap.size := by omega)
              (try have hN4_3_01 : w3.heap.size < w4.heap.size + 1 := by omega)
              (try have hN4_3_02 : w3.heap.size < w4.heap.size + 1 + 1 := by omega)
              (try have hN4_3_10 : w3.heap.size + 1 < w4.heap.size := by omega)
              (try have hN4_3_11 : w3.heap.size + 1 < w4.heap.size + 1 := by omega)
              (try have hN4_3_12 : w3.heap.size + 1 < w4.heap.size + 1 + 1 := by omega)
              (try have hN4_3_20 : w3.heap.size + 1 + 1 < w4.heap.size := by omega)
              (try have hN4_3_21 : w3.heap.size + 1 + 1 < w4.heap.size + 1 := by omega)
              (try have hN4_3_22 : w3.heap.size + 1 + 1 < w4.heap.size + 1 + 1 := by omega)
              (try have hL4_1 : w1.heap.size ≤ w4.heap.size := by omega)
              (try have hL4_2 : w2.heap.size ≤ w4.heap.size := by omega)
              (try have hL4_3 : w3.heap.size ≤ w4.heap.size := by omega)
              (try have hS4_1 : w1.heap.size < w4.heap.size := by omega)
              (try have hS4_1' : w1.heap.size + 1 < w4.heap.size := by omega)
              (try have hS4_2 : w2.heap.size < w4.heap.size := by omega)
              (try have hS4_2' : w2.heap.size + 1 < w4.heap.size := by omega)
              (try have hS4_3 : w3.heap.size < w4.heap.size := by omega)
              (try have hS4_3' : w3.heap.size + 1 < w4.heap.size := by omega)
              go_wp2
              go_roundw
              case rel =>
                go_light
                refine ⟨k + 1, _, _, _, by omega, by omega, by rw [← rword_add hrit.out, hfs.out], rit_next hrit.out, ?_, RWs.set hB4 hw0 _ _ _⟩
                intro j h1 h2 h3
                by_cases e : j = k
                · subst e
                  rw [hrit.out] at h3
                  simp only [Prod.mk.injEq] at h3
                  exact HC.out ⟨h3.1, h3.2.1, h3.2.2⟩
                · exact hbef.out j h1 (by omega) h3
              case measure =>
                show n - ((⟨(rword k _ _ _).toArray⟩ : ByteArray) ++ ⟨#[112]⟩).size < n - (ByteArray.mk (rword k _ _ _).toArray).size
                rw [ByteArray.size_append, rw_size]
                show n - (k + 1) < n - k
                omega
          · have hd2 : decide (0 < p + q + r) = false := by simpa using hs2
            have hfs : Hid (fS p q r = ⟨#[110]⟩) := by show _ = _; rw [fS, if_neg hs2]
            clear hs2
            by_cases e1 : p = a
            · subst e1
              by_cases e2 : q = b
              · subst e2
                have e3 : ¬ r = c := fun e => HC.out ⟨rfl, rfl, e⟩
                go_wp2_with fail
                refine (tpFlow_any _ _ _ _ (by assumption) (by assumption) (by assumption)).mono ?_
                rintro e5 w5 ⟨rfl, hB5⟩
                obtain ⟨hC5, hF5⟩ := bcell hB5
                have hS5 := hB5.size
                (try simp at hS5)
                (try have hS5_w0 : w.heap.size < w5.heap.size := by omega)
                (try have hS5_w1 : w.heap.size + 1 < w5.heap.size := by omega)
                (try have hS5_w2 : w.heap.size + 1 + 1 < w5.heap.size := by omega)
                (try have hS5_w3 : w.heap.size + 1 + 1 + 1 < w5.heap.size := by omega)
                (try have hS5_w4 : w.heap.size + 1 + 1 + 1 + 1 < w5.heap.size := by omega)
                (try have hL5_w0 : w.heap.size ≤ w5.heap.size := by omega)
                (try have hL5_w1 : w.heap.size + 1 ≤ w5.heap.size := by omega)
                (try have hL5_w2 : w.heap.size + 1 + 1 ≤ w5.heap.size := by omega)
                (try have hL5_w3 : w.heap.size + 1 + 1 + 1 ≤ w5.heap.size := by omega)
                (try have hL5_w : w.heap.size ≤ w5.heap.size + 1 := by omega)
                (try have hM5_1 : w.heap.size < w5.heap.size + 1 := by omega)
                (try have hM5_2 : w.heap.size < w5.heap.size + 1 + 1 := by omega)
                (try have hM5_3 : w.heap.size < w5.heap.size + 1 + 1 + 1 := by omega)
                (try have hN5_2_00 : w2.heap.size < w5.heap.size := by omega)
                (try have hN5_2_01 : w2.heap.size < w5.heap.size + 1 := by omega)
                (try have hN5_2_02 : w2.heap.size < w5.heap.size + 1 + 1 := by omega)
                (try have hN5_2_10 : w2.heap.size + 1 < w5.heap.size := by omega)
                (try have hN5_2_11 : w2.heap.size + 1 < w5.heap.size + 1 := by omega)
                (try have hN5_2_12 : w2.heap.size + 1 < w5.heap.size + 1 + 1 := by omega)
                (try have hN5_2_20 : w2.heap.size + 1 + 1 < w5.heap.size := by omega)
                (try have hN5_2_21 : w2.heap.size + 1 + 1 < w5.heap.size + 1 := by omega)
                (try have hN5_2_22 : w2.heap.size + 1 + 1 < w5.heap.size + 1 + 1 := by omega)
                (try have hN5_3_00 : w3.heap.size < w5.heap.size := by omega)
                (try have hN5_3_01 : w3.heap.size < w5.heap.size + 1 := by omega)
                (try have hN5_3_02 : w3.heap.size < w5.heap.size + 1 + 1 := by omega)
                (try have hN5_3_10 : w3.heap.size + 1 < w5.heap.size := by omega)
                (try have hN5_3_11 : w3.heap.size + 1 < w5.heap.size + 1 := by omega)
                (try have hN5_3_12 : w3.heap.size + 1 < w5.heap.size + 1 + 1 := by omega)
                (try have hN5_3_20 : w3.heap.size + 1 + 1 < w5.heap.size := by omega)
                (try have hN5_3_21 : w3.heap.size + 1 + 1 < w5.heap.size + 1 := by omega)
                (try have hN5_3_22 : w3.heap.size + 1 + 1 < w5.heap.size + 1 + 1 := by omega)
                (try have hN5_4_00 : w4.heap.size < w5.heap.size := by omega)
                (try have hN5_4_01 : w4.heap.size < w5.heap.size + 1 := by omega)
                (try have hN5_4_02 : w4.heap.size < w5.heap.size + 1 + 1 := by omega)
                (try have hN5_4_10 : w4.heap.size + 1 < w5.heap.size := by omega)
                (try have hN5_4_11 : w4.heap.size + 1 < w5.heap.size + 1 := by omega)
                (try have hN5_4_12 : w4.heap.size + 1 < w5.heap.size + 1 + 1 := by omega)
                (try have hN5_4_20 : w4.heap.size + 1 + 1 < w5.heap.size := by omega)
                (try have hN5_4_21 : w4.heap.size + 1 + 1 < w5.heap.size + 1 := by omega)
                (try have hN5_4_22 : w4.heap.size + 1 + 1 < w5.heap.size + 1 + 1 := by omega)
                (try have hL5_1 : w1.heap.size ≤ w5.heap.size := by omega)
                (try have hL5_2 : w2.heap.size ≤ w5.heap.size := by omega)
                (try have hL5_3 : w3.heap.size ≤ w5.heap.size := by omega)
                (try have hL5_4 : w4.heap.size ≤ w5.heap.size := by omega)
                (try have hS5_1 : w1.heap.size < w5.heap.size := by omega)
                (try have hS5_1' : w1.heap.size + 1 < w5.heap.size := by omega)
                (try have hS5_2 : w2.heap.size < w5.heap.size := by omega)
                (try have hS5_2' : w2.heap.size + 1 < w5.heap.size := by omega)
                (try have hS5_3 : w3.heap.size < w5.heap.size := by omega)
                (try have hS5_3' : w3.heap.size + 1 < w5.heap.size := by omega)
                (try have hS5_4 : w4.heap.size < w5.heap.size := by omega)
                (try have hS5_4' : w4.heap.size + 1 < w5.heap.size := by omega)
                go_wp2
                go_roundw
                case rel =>
                  go_light
                  refine ⟨k + 1, _, _, _, by omega, by omega, by rw [← rword_add hrit.out, hfs.out], rit_next hrit.out, ?_, RWs.set hB5 hw0 _ _ _⟩
                  intro j h1 h2 h3
                  by_cases e : j = k
                  · subst e
                    rw [hrit.out] at h3
                    simp only [Prod.mk.injEq] at h3
                    exact HC.out ⟨h3.1, h3.2.1, h3.2.2⟩
                  · exact hbef.out j h1 (by omega) h3
                case measure =>
                  show n - ((⟨(rword k _ _ _).toArray⟩ : ByteArray) ++ ⟨#[110]⟩).size < n - (ByteArray.mk (rword k _ _ _).toArray).size
                  rw [ByteArray.size_append, rw_size]
                  show n - (k + 1) < n - k
                  omega
              · go_wp2_with fail
                refine (tpFlow_any _ _ _ _ (by assumption) (by assumption) (by assumption)).mono ?_
                rintro e6 w6 ⟨rfl, hB6⟩
                obtain ⟨hC6, hF6⟩ := bcell hB6
                have hS6 := hB6.size
                (try simp at hS6)
                (try have hS6_w0 : w.heap.size < w6.heap.size := by omega)
                (try have hS6_w1 : w.heap.size + 1 < w6.heap.size := by omega)
                (try have hS6_w2 : w.heap.size + 1 + 1 < w6.heap.size := by omega)
                (try have hS6_w3 : w.heap.size + 1 + 1 + 1 < w6.heap.size := by omega)
                (try have hS6_w4 : w.heap.size + 1 + 1 + 1 + 1 < w6.heap.size := by omega)
                (try have hL6_w0 : w.heap.size ≤ w6.heap.size := by omega)
                (try have hL6_w1 : w.heap.size + 1 ≤ w6.heap.size := by omega)
                (try have hL6_w2 : w.heap.size + 1 + 1 ≤ w6.heap.size := by omega)
                (try have hL6_w3 : w.heap.size + 1 + 1 + 1 ≤ w6.heap.size := by omega)
                (try have hL6_w : w.heap.size ≤ w6.heap.size + 1 := by omega)
                (try have hM6_1 : w.heap.size < w6.heap.size + 1 := by omega)
                (try have hM6_2 : w.heap.size < w6.heap.size + 1 + 1 := by omega)
                (try have hM6_3 : w.heap.size < w6.heap.size + 1 + 1 + 1 := by omega)
                (try have hN6_3_00 : w3.heap.size < w6.heap.size := by omega)
                (try have hN6_3_01 : w3.heap.size < w6.heap.size + 1 := by omega)
                (try have hN6_3_02 : w3.heap.size < w6.heap.size + 1 + 1 := by omega)
                (try have hN6_3_10 : w3.heap.size + 1 < w6.heap.size := by omega)
                (try have hN6_3_11 : w3.heap.size + 1 < w6.heap.size + 1 := by omega)
                (try have hN6_3_12 : w3.heap.size + 1 < w6.heap.size + 1 + 1 := by omega)
                (try have hN6_3_20 : w3.heap.size + 1 + 1 < w6.heap.size := by omega)
                (try have hN6_3_21 : w3.heap.size + 1 + 1 < w6.heap.size + 1 := by omega)
                (try have hN6_3_22 : w3.heap.size + 1 + 1 < w6.heap.size + 1 + 1 := by omega)
                (try have hN6_4_00 : w4.heap.size < w6.heap.size := by omega)
                (try have hN6_4_01 : w4.heap.size < w6.heap.size + 1 := by omega)
                (try have hN6_4_02 : w4.heap.size < w6.heap.size + 1 + 1 := by omega)
                (try have hN6_4_10 : w4.heap.size + 1 < w6.heap.size := by omega)
                (try have hN6_4_11 : w4.heap.size + 1 < w6.heap.size + 1 := by omega)
                (try have hN6_4_12 : w4.heap.size + 1 < w6.heap.size + 1 + 1 := by omega)
                (try have hN6_4_20 : w4.heap.size + 1 + 1 < w6.heap.size := by omega)
                (try have hN6_4_21 : w4.heap.size + 1 + 1 < w6.heap.size + 1 := by omega)
                (try have hN6_4_22 : w4.heap.size + 1 + 1 < w6.heap.size + 1 + 1 := by omega)
                (try have hN6_5_00 : w5.heap.size < w6.heap.size := by omega)
                (try have hN6_5_01 : w5.heap.size < w6.heap.size + 1 := by omega)
                (try have hN6_5_02 : w5.heap.size < w6.heap.size + 1 + 1 := by omega)
                (try have hN6_5_10 : w5.heap.size + 1 < w6.heap.size := by omega)
                (try have hN6_5_11 : w5.heap.size + 1 < w6.heap.size + 1 := by omega)
                (try have hN6_5_12 : w5.heap.size + 1 < w6.heap.size + 1 + 1 := by omega)
                (try have hN6_5_20 : w5.heap.size + 1 + 1 < w6.heap.size := by omega)
                (try have hN6_5_21 : w5.heap.size + 1 + 1 < w6.heap.size + 1 := by omega)
                (try have hN6_5_22 : w5.heap.size + 1 + 1 < w6.heap.size + 1 + 1 := by omega)
                (try have hL6_1 : w1.heap.size ≤ w6.heap.size := by omega)
                (try have hL6_2 : w2.heap.size ≤ w6.heap.size := by omega)
                (try have hL6_3 : w3.heap.size ≤ w6.heap.size := by omega)
                (try have hL6_4 : w4.heap.size ≤ w6.heap.size := by omega)
                (try have hL6_5 : w5.heap.size ≤ w6.heap.size := by omega)
                (try have hS6_1 : w1.heap.size < w6.heap.size := by omega)
                (try have hS6_1' : w1.heap.size + 1 < w6.heap.size := by omega)
                (try have hS6_2 : w2.heap.size < w6.heap.size := by omega)
                (try have hS6_2' : w2.heap.size + 1 < w6.heap.size := by omega)
                (try have hS6_3 : w3.heap.size < w6.heap.size := by omega)
                (try have hS6_3' : w3.heap.size + 1 < w6.heap.size := by omega)
                (try have hS6_4 : w4.heap.size < w6.heap.size := by omega)
                (try have hS6_4' : w4.heap.size + 1 < w6.heap.size := by omega)
                (try have hS6_5 : w5.heap.size < w6.heap.size := by omega)
                (try have hS6_5' : w5.heap.size + 1 < w6.heap.size := by omega)
                go_wp2
                go_roundw
                case rel =>
                  go_light
                  refine ⟨k + 1, _, _, _, by omega, by omega, by rw [← rword_add hrit.out, hfs.out], rit_next hrit.out, ?_, RWs.set hB6 hw0 _ _ _⟩
                  intro j h1 h2 h3
                  by_cases e : j = k
                  · subst e
                    rw [hrit.out] at h3
                    simp only [Prod.mk.injEq] at h3
                    exact HC.out ⟨h3.1, h3.2.1, h3.2.2⟩
                  · exact hbef.out j h1 (by omega) h3
                case measure =>
                  show n - ((⟨(rword k _ _ _).toArray⟩ : ByteArray) ++ ⟨#[110]⟩).size < n - (ByteArray.mk (rword k _ _ _).toArray).size
                  rw [ByteArray.size_append, rw_size]
                  show n - (k + 1) < n - k
                  omega
            · go_wp2_with fail
              refine (tpFlow_any _ _ _ _ (by assumption) (by assumption) (by assumption)).mono ?_
              rintro e7 w7 ⟨rfl, hB7⟩
              obtain ⟨hC7, hF7⟩ := bcell hB7
              have hS7 := hB7.size
              (try simp at hS7)
              (try have hS7_w0 : w.heap.size < w7.heap.size := by omega)
              (try have hS7_w1 : w.heap.size + 1 < w7.heap.size := by omega)
              (try have hS7_w2 : w.heap.size + 1 + 1 < w7.heap.size := by omega)
              (try have hS7_w3 : w.heap.size + 1 + 1 + 1 < w7.heap.size := by omega)
              (try have hS7_w4 : w.heap.size + 1 + 1 + 1 + 1 < w7.heap.size := by omega)
              (try have hL7_w0 : w.heap.size ≤ w7.heap.size := by omega)
              (try have hL7_w1 : w.heap.size + 1 ≤ w7.heap.size := by omega)
              (try have hL7_w2 : w.heap.size + 1 + 1 ≤ w7.heap.size := by omega)
              (try have hL7_w3 : w.heap.size + 1 + 1 + 1 ≤ w7.heap.size := by omega)
              (try have hL7_w : w.heap.size ≤ w7.heap.size + 1 := by omega)
              (try have hM7_1 : w.heap.size < w7.heap.size + 1 := by omega)
              (try have hM7_2 : w.heap.size < w7.heap.size + 1 + 1 := by omega)
              (try have hM7_3 : w.heap.size < w7.heap.size + 1 + 1 + 1 := by omega)
              (try have hN7_4_00 : w4.heap.size < w7.heap.size := by omega)
              (try have hN7_4_01 : w4.heap.size < w7.heap.size + 1 := by omega)
              (try have hN7_4_02 : w4.heap.size < w7.heap.size + 1 + 1 := by omega)
              (try have hN7_4_10 : w4.heap.size + 1 < w7.heap.size := by omega)
              (try have hN7_4_11 : w4.heap.size + 1 < w7.heap.size + 1 := by omega)
              (try have hN7_4_12 : w4.heap.size + 1 < w7.heap.size + 1 + 1 := by omega)
              (try have hN7_4_20 : w4.heap.size + 1 + 1 < w7.heap.size := by omega)
              (try have hN7_4_21 : w4.heap.size + 1 + 1 < w7.heap.size + 1 := by omega)
              (try have hN7_4_22 : w4.heap.size + 1 + 1 < w7.heap.size + 1 + 1 := by omega)
              (try have hN7_5_00 : w5.heap.size < w7.heap.size := by omega)
              (try have hN7_5_01 : w5.heap.size < w7.heap.size + 1 := by omega)
              (try have hN7_5_02 : w5.heap.size < w7.heap.size + 1 + 1 := by omega)
              (try have hN7_5_10 : w5.heap.size + 1 < w7.heap.size := by omega)
              (try have hN7_5_11 : w5.heap.size + 1 < w7.heap.size + 1 := by omega)
              (try have hN7_5_12 : w5.heap.size + 1 < w7.heap.size + 1 + 1 := by omega)
              (try have hN7_5_20 : w5.heap.size + 1 + 1 < w7.heap.size := by omega)
              (try have hN7_5_21 : w5.heap.size + 1 + 1 < w7.heap.size + 1 := by omega)
              (try have hN7_5_22 : w5.heap.size + 1 + 1 < w7.heap.size + 1 + 1 := by omega)
              (try have hN7_6_00 : w6.heap.size < w7.heap.size := by omega)
              (try have hN7_6_01 : w6.heap.size < w7.heap.size + 1 := by omega)
              (try have hN7_6_02 : w6.heap.size < w7.heap.size + 1 + 1 := by omega)
              (try have hN7_6_10 : w6.heap.size + 1 < w7.heap.size := by omega)
              (try have hN7_6_11 : w6.heap.size + 1 < w7.heap.size + 1 := by omega)
              (try have hN7_6_12 : w6.heap.size + 1 < w7.heap.size + 1 + 1 := by omega)
              (try have hN7_6_20 : w6.heap.size + 1 + 1 < w7.heap.size := by omega)
              (try have hN7_6_21 : w6.heap.size + 1 + 1 < w7.heap.size + 1 := by omega)
              (try have hN7_6_22 : w6.heap.size + 1 + 1 < w7.heap.size + 1 + 1 := by omega)
              (try have hL7_1 : w1.heap.size ≤ w7.heap.size := by omega)
              (try have hL7_2 : w2.heap.size ≤ w7.heap.size := by omega)
              (try have hL7_3 : w3.heap.size ≤ w7.heap.size := by omega)
              (try have hL7_4 : w4.heap.size ≤ w7.heap.size := by omega)
              (try have hL7_5 : w5.heap.size ≤ w7.heap.size := by omega)
              (try have hL7_6 : w6.heap.size ≤ w7.heap.size := by omega)
              (try have hS7_1 : w1.heap.size < w7.heap.size := by omega)
              (try have hS7_1' : w1.heap.size + 1 < w7.heap.size := by omega)
              (try have hS7_2 : w2.heap.size < w7.heap.size := by omega)
              (try have hS7_2' : w2.heap.size + 1 < w7.heap.size := by omega)
              (try have hS7_3 : w3.heap.size < w7.heap.size := by omega)
              (try have hS7_3' : w3.heap.size + 1 < w7.heap.size := by omega)
              (try have hS7_4 : w4.heap.size < w7.heap.size := by omega)
              (try have hS7_4' : w4.heap.size + 1 < w7.heap.size := by omega)
              (try have hS7_5 : w5.heap.size < w7.heap.size := by omega)
              (try have hS7_5' : w5.heap.size + 1 < w7.heap.size := by omega)
              (try have hS7_6 : w6.heap.size < w7.heap.size := by omega)
              (try have hS7_6' : w6.heap.size + 1 < w7.heap.size := by omega)
              go_wp2
              go_roundw
              case rel =>
                go_light
                refine ⟨k + 1, _, _, _, by omega, by omega, by rw [← rword_add hrit.out, hfs.out], rit_next hrit.out, ?_, RWs.set hB7 hw0 _ _ _⟩
                intro j h1 h2 h3
                by_cases e : j = k
                · subst e
                  rw [hrit.out] at h3
                  simp only [Prod.mk.injEq] at h3
                  exact HC.out ⟨h3.1, h3.2.1, h3.2.2⟩
                · exact hbef.out j h1 (by omega) h3
              case measure =>
                show n - ((⟨(rword k _ _ _).toArray⟩ : ByteArray) ++ ⟨#[110]⟩).size < n - (ByteArray.mk (rword k _ _ _).toArray).size
                rw [ByteArray.size_append, rw_size]
                show n - (k + 1) < n - k
                omega
    · have hd : decide (0 < a + b + c) = false := by simpa using hs
      have hS' : Hid (fS a b c = ⟨#[110]⟩) := by show _ = _; rw [fS, if_neg hs]
      clear hs
      go_enter Try.func41, Try.ntmps41
      go_wp2_with fail
      refine (tpFlow_any _ _ _ _ b1 b2 b3).mono ?_
      rintro e8 w8 ⟨rfl, hB8⟩
      obtain ⟨hC8, hF8⟩ := bcell hB8
      have hS8 := hB8.size
      (try simp at hS8)
      (try have hS8_w0 : w.heap.size < w8.heap.size := by omega)
      (try have hS8_w1 : w.heap.size + 1 < w8.heap.size := by omega)
      (try have hS8_w2 : w.heap.size + 1 + 1 < w8.heap.size := by omega)
      (try have hS8_w3 : w.heap.size + 1 + 1 + 1 < w8.heap.size := by omega)
      (try have hS8_w4 : w.heap.size + 1 + 1 + 1 + 1 < w8.heap.size := by omega)
      (try have hL8_w0 : w.heap.size ≤ w8.heap.size := by omega)
      (try have hL8_w1 : w.heap.size + 1 ≤ w8.heap.size := by omega)
      (try have hL8_w2 : w.heap.size + 1 + 1 ≤ w8.heap.size := by omega)
      (try have hL8_w3 : w.heap.size + 1 + 1 + 1 ≤ w8.heap.size := by omega)
      (try have hL8_w : w.heap.size ≤ w8.heap.size + 1 := by omega)
      (try have hM8_1 : w.heap.size < w8.heap.size + 1 := by omega)
      (try have hM8_2 : w.heap.size < w8.heap.size + 1 + 1 := by omega)
      (try have hM8_3 : w.heap.size < w8.heap.size + 1 + 1 + 1 := by omega)
      (try have hN8_5_00 : w5.heap.size < w8.heap.size := by omega)
      (try have hN8_5_01 : w5.heap.size < w8.heap.size + 1 := by omega)
      (try have hN8_5_02 : w5.heap.size < w8.heap.size + 1 + 1 := by omega)
      (try have hN8_5_10 : w5.heap.size + 1 < w8.heap.size := by omega)
      (try have hN8_5_11 : w5.heap.size + 1 < w8.heap.size + 1 := by omega)
      (try have hN8_5_12 : w5.heap.size + 1 < w8.heap.size + 1 + 1 := by omega)
      (try have hN8_5_20 : w5.heap.size + 1 + 1 < w8.heap.size := by omega)
      (try have hN8_5_21 : w5.heap.size + 1 + 1 < w8.heap.size + 1 := by omega)
      (try have hN8_5_22 : w5.heap.size + 1 + 1 < w8.heap.size + 1 + 1 := by omega)
      (try have hN8_6_00 : w6.heap.size < w8.heap.size := by omega)
      (try have hN8_6_01 : w6.heap.size < w8.heap.size + 1 := by omega)
      (try have hN8_6_02 : w6.heap.size < w8.heap.size + 1 + 1 := by omega)
      (try have hN8_6_10 : w6.heap.size + 1 < w8.heap.size := by omega)
      (try have hN8_6_11 : w6.heap.size + 1 < w8.heap.size + 1 := by omega)
      (try have hN8_6_12 : w6.heap.size + 1 < w8.heap.size + 1 + 1 := by omega)
      (try have hN8_6_20 : w6.heap.size + 1 + 1 < w8.heap.size := by omega)
      (try have hN8_6_21 : w6.heap.size + 1 + 1 < w8.heap.size + 1 := by omega)
      (try have hN8_6_22 : w6.heap.size + 1 + 1 < w8.heap.size + 1 + 1 := by omega)
      (try have hN8_7_00 : w7.heap.size < w8.heap.size := by omega)
      (try have hN8_7_01 : w7.heap.size < w8.heap.size + 1 := by omega)
      (try have hN8_7_02 : w7.heap.size < w8.heap.size + 1 + 1 := by omega)
      (try have hN8_7_10 : w7.heap.size + 1 < w8.heap.size := by omega)
      (try have hN8_7_11 : w7.heap.size + 1 < w8.heap.size + 1 := by omega)
      (try have hN8_7_12 : w7.heap.size + 1 < w8.heap.size + 1 + 1 := by omega)
      (try have hN8_7_20 : w7.heap.size + 1 + 1 < w8.heap.size := by omega)
      (try have hN8_7_21 : w7.heap.size + 1 + 1 < w8.heap.size + 1 := by omega)
      (try have hN8_7_22 : w7.heap.size + 1 + 1 < w8.heap.size + 1 + 1 := by omega)
      (try have hL8_1 : w1.heap.size ≤ w8.heap.size := by omega)
      (try have hL8_2 : w2.heap.size ≤ w8.heap.size := by omega)
      (try have hL8_3 : w3.heap.size ≤ w8.heap.size := by omega)
      (try have hL8_4 : w4.heap.size ≤ w8.heap.size := by omega)
      (try have hL8_5 : w5.heap.size ≤ w8.heap.size := by omega)
      (try have hL8_6 : w6.heap.size ≤ w8.heap.size := by omega)
      (try have hL8_7 : w7.heap.size ≤ w8.heap.size := by omega)
      (try have hS8_1 : w1.heap.size < w8.heap.size := by omega)
      (try have hS8_1' : w1.heap.size + 1 < w8.heap.size := by omega)
      (try have hS8_2 : w2.heap.size < w8.heap.size := by omega)
      (try have hS8_2' : w2.heap.size + 1 < w8.heap.size := by omega)
      (try have hS8_3 : w3.heap.size < w8.heap.size := by omega)
      (try have hS8_3' : w3.heap.size + 1 < w8.heap.size := by omega)
      (try have hS8_4 : w4.heap.size < w8.heap.size := by omega)
      (try have hS8_4' : w4.heap.size + 1 < w8.heap.size := by omega)
      (try have hS8_5 : w5.heap.size < w8.heap.size := by omega)
      (try have hS8_5' : w5.heap.size + 1 < w8.heap.size := by omega)
      (try have hS8_6 : w6.heap.size < w8.heap.size := by omega)
      (try have hS8_6' : w6.heap.size + 1 < w8.heap.size := by omega)
      (try have hS8_7 : w7.heap.size < w8.heap.size := by omega)
      (try have hS8_7' : w7.heap.size + 1 < w8.heap.size := by omega)
      go_wp2
      go_loopw [5] (fun s wr => ∃ k : Nat, ∃ p q r : Int, 1 ≤ k ∧ k ≤ n ∧ s = .string ⟨(rword k a b c).toArray⟩ ∧ Hid (rit k a b c = (p, q, r)) ∧ Hid (∀ j, 1 ≤ j → j < k → rit j a b c ≠ (a, b, c)) ∧ RWs w wr w8.heap.size a b c p q r) (fun s _ => match s with | .string x => n - x.size | _ => 0)
      case atStart =>
        go_light
        refine ⟨1, _, _, _, by omega, by omega, ?_, rfl, (fun j h1 h2 => absurd h2 (by omega)), ?_⟩
        · have := rword_add (k := 0) (a := a) (b := b) (c := c) (p := a) (q := b) (r := c) rfl
          rw [← this]
          simp only [rword, List.range_zero, List.map_nil]
          rw [fS_empty, hS'.out]
        · refine RWs.start ?_ (by omega) ?_ _ _ _ _
          · intro o
            rw [bG hB8 (by simp)]
            simp [go_sem]
          · repeat (first | with_reducible exact Below.refl _ _ | with_reducible assumption | ((with_reducible refine blA ?_ ?_); (focus (first | omega | (simp <;> omega)))) | (with_reducible refine blD ?_) | (with_reducible refine blN ?_) | ((with_reducible refine blS ?_ ?_); (focus (first | omega | (simp <;> omega)))) | ((with_reducible refine blT (by assumption) ?_ ?_); (focus (first | omega | (simp <;> omega)))))
      case round =>
        obtain ⟨k, p, q, r, hk1, hk2, rfl, hrit, hbef, hw⟩ := hrel
        have hw0 := hw
        obtain ⟨hG, hGf, hF, hsz, hlt, hbel⟩ := hw
        have HB := Lib.hid hbel
        clear hbel
        by_cases hc : p = a ∧ q = b ∧ r = c
        · obtain ⟨h1, h2, h3⟩ := hc
          rw [h1, h2, h3] at hG
          have hper : Hid (rper a b c = k) := rper_eq hk1 (by omega) (by rw [hrit.out, h1, h2, h3]) hbef.out
          go_wp2
          go_ret
          refine ⟨?_, ?_⟩
          · go_light
            unfold rwS
            rw [hper.out]
            rfl
          · have hB := HB.out
            repeat (first | with_reducible exact Below.refl _ _ | with_reducible assumption | ((with_reducible refine blA ?_ ?_); (focus (first | omega | (simp <;> omega)))) | (with_reducible refine blD ?_) | (with_reducible refine blN ?_) | ((with_reducible refine blS ?_ ?_); (focus (first | omega | (simp <;> omega)))) | ((with_reducible refine blT (by assumption) ?_ ?_); (focus (first | omega | (simp <;> omega)))))
        · have hlt' : k < n := by
            refine Nat.lt_of_le_of_ne hk2 fun e => hc ?_
            have e2 := hrit.out
            rw [e, Hn.out] at e2
            simp only [Prod.mk.injEq] at e2
            exact ⟨e2.1.symm, e2.2.1.symm, e2.2.2.symm⟩
          have HC := Lib.hid hc
          have hadd1 : ∀ (w0 : World), (Op.stringOp .add ⟨(rword k a b c).toArray⟩ ⟨#[112]⟩).run Try.prog w0 = .ok (.string (⟨(rword k a b c).toArray⟩ ++ ⟨#[112]⟩)) w0 := fun w0 => by
            rw [run_string_add_sum w0 _ _ (by show (rword k a b c).toArray.size + 1 ≤ _; simp [rword_length]; omega)]
          have hadd2 : ∀ (w0 : World), (Op.stringOp .add ⟨(rword k a b c).toArray⟩ ⟨#[110]⟩).run Try.prog w0 = .ok (.string (⟨(rword k a b c).toArray⟩ ++ ⟨#[110]⟩)) w0 := fun w0 => by
            rw [run_string_add_sum w0 _ _ (by show (rword k a b c).toArray.size + 1 ≤ _; simp [rword_length]; omega)]
          have hpE := rit_edge HE.out Hsq.out k
          rw [hrit.out] at hpE
          obtain ⟨q1, q2, q3, q4⟩ := hpE.bd hD
          have q5 := hpE.pos
          have q6 := hpE.neg
          have p1 : Bd 1000000 p := ⟨by simp only at *; omega, by simp only at *; omega⟩
          have p2 : Bd 1000000 q := ⟨by simp only at *; omega, by simp only at *; omega⟩
          have p3 : Bd 1000000 r := ⟨by simp only at *; omega, by simp only at *; omega⟩
          clear hpE q1 q2 q3 q4 q5 q6 hc
          by_cases hs2 : 0 < p + q + r
          · have hd2 : decide (0 < p + q + r) = true := by simp [hs2]
            have hfs : Hid (fS p q r = ⟨#[112]⟩) := by show _ = _; rw [fS, if_pos hs2]
            clear hs2
            by_cases e1 : p = a
            · subst e1
              by_cases e2 : q = b
              · subst e2
                have e3 : ¬ r = c := fun e => HC.out ⟨rfl, rfl, e⟩
                go_wp2_with fail
                refine (tpFlow_any _ _ _ _ (by assumption) (by assumption) (by assumption)).mono ?_
                rintro e9 w9 ⟨rfl, hB9⟩
                obtain ⟨hC9, hF9⟩ := bcell hB9
                have hS9 := hB9.size
                (try simp at hS9)
                (try have hS9_w0 : w.heap.size < w9.heap.size := by omega)
                (try have hS9_w1 : w.heap.size + 1 < w9.heap.size := by omega)
                (try have hS9_w2 : w.heap.size + 1 + 1 < w9.heap.size := by omega)
                (try have hS9_w3 : w.heap.size + 1 + 1 + 1 < w9.heap.size := by omega)
                (try have hS9_w4 : w.heap.size + 1 + 1 + 1 + 1 < w9.heap.size := by omega)
                (try have hL9_w0 : w.heap.size ≤ w9.heap.size := by omega)
                (try have hL9_w1 : w.heap.size + 1 ≤ w9.heap.size := by omega)
                (try have hL9_w2 : w.heap.size + 1 + 1 ≤ w9.heap.size := by omega)
                (try have hL9_w3 : w.heap.size + 1 + 1 + 1 ≤ w9.heap.size := by omega)
                (try have hL9_w : w.heap.size ≤ w9.heap.size + 1 := by omega)
                (try have hM9_1 : w.heap.size < w9.heap.size + 1 := by omega)
                (try have hM9_2 : w.heap.size < w9.heap.size + 1 + 1 := by omega)
                (try have hM9_3 : w.heap.size < w9.heap.size + 1 + 1 + 1 := by omega)
                (try have hN9_6_00 : w6.heap.size < w9.heap.size := by omega)
                (try have hN9_6_01 : w6.heap.size < w9.heap.size + 1 := by omega)
                (try have hN9_6_02 : w6.heap.size < w9.heap.size + 1 + 1 := by omega)
                (try have hN9_6_10 : w6.heap.size + 1 < w9.heap.size := by omega)
                (try have hN9_6_11 : w6.heap.size + 1 < w9.heap.size + 1 := by omega)
                (try have hN9_6_12 : w6.heap.size + 1 < w9.heap.size + 1 + 1 := by omega)
                (try have hN9_6_20 : w6.heap.size + 1 + 1 < w9.heap.size := by omega)
                (try have hN9_6_21 : w6.heap.size + 1 + 1 < w9.heap.size + 1 := by omega)
                (try have hN9_6_22 : w6.heap.size + 1 + 1 < w9.heap.size + 1 + 1 := by omega)
                (try have hN9_7_00 : w7.heap.size < w9.heap.size := by omega)
                (try have hN9_7_01 : w7.heap.size < w9.heap.size + 1 := by omega)
                (try have hN9_7_02 : w7.heap.size < w9.heap.size + 1 + 1 := by omega)
                (try have hN9_7_10 : w7.heap.size + 1 < w9.heap.size := by omega)
                (try have hN9_7_11 : w7.heap.size + 1 < w9.heap.size + 1 := by omega)
                (try have hN9_7_12 : w7.heap.size + 1 < w9.heap.size + 1 + 1 := by omega)
                (try have hN9_7_20 : w7.heap.size + 1 + 1 < w9.heap.size := by omega)
                (try have hN9_7_21 : w7.heap.size + 1 + 1 < w9.heap.size + 1 := by omega)
                (try have hN9_7_22 : w7.heap.size + 1 + 1 < w9.heap.size + 1 + 1 := by omega)
                (try have hN9_8_00 : w8.heap.size < w9.heap.size := by omega)
                (try have hN9_8_01 : w8.heap.size < w9.heap.size + 1 := by omega)
                (try have hN9_8_02 : w8.heap.size < w9.heap.size + 1 + 1 := by omega)
                (try have hN9_8_10 : w8.heap.size + 1 < w9.heap.size := by omega)
                (try have hN9_8_11 : w8.heap.size + 1 < w9.heap.size + 1 := by omega)
                (try have hN9_8_12 : w8.heap.size + 1 < w9.heap.size + 1 + 1 := by omega)
                (try have hN9_8_20 : w8.heap.size + 1 + 1 < w9.heap.size := by omega)
                (try have hN9_8_21 : w8.heap.size + 1 + 1 < w9.heap.size + 1 := by omega)
                (try have hN9_8_22 : w8.heap.size + 1 + 1 < w9.heap.size + 1 + 1 := by omega)
                (try have hL9_1 : w1.heap.size ≤ w9.heap.size := by omega)
                (try have hL9_2 : w2.heap.size ≤ w9.heap.size := by omega)
                (try have hL9_3 : w3.heap.size ≤ w9.heap.size := by omega)
                (try have hL9_4 : w4.heap.size ≤ w9.heap.size := by omega)
                (try have hL9_5 : w5.heap.size ≤ w9.heap.size := by omega)
                (try have hL9_6 : w6.heap.size ≤ w9.heap.size := by omega)
                (try have hL9_7 : w7.heap.size ≤ w9.heap.size := by omega)
                (try have hL9_8 : w8.heap.size ≤ w9.heap.size := by omega)
                (try have hS9_1 : w1.heap.size < w9.heap.size := by omega)
                (try have hS9_1' : w1.heap.size + 1 < w9.heap.size := by omega)
                (try have hS9_2 : w2.heap.size < w9.heap.size := by omega)
                (try have hS9_2' : w2.heap.size + 1 < w9.heap.size := by omega)
                (try have hS9_3 : w3.heap.size < w9.heap.size := by omega)
                (try have hS9_3' : w3.heap.size + 1 < w9.heap.size := by omega)
                (try have hS9_4 : w4.heap.size < w9.heap.size := by omega)
                (try have hS9_4' : w4.heap.size + 1 < w9.heap.size := by omega)
                (try have hS9_5 : w5.heap.size < w9.heap.size := by omega)
                (try have hS9_5' : w5.heap.size + 1 < w9.heap.size := by omega)
                (try have hS9_6 : w6.heap.size < w9.heap.size := by omega)
                (try have hS9_6' : w6.heap.size + 1 < w9.heap.size := by omega)
                (try have hS9_7 : w7.heap.size < w9.heap.size := by omega)
                (try have hS9_7' : w7.heap.size + 1 < w9.heap.size := by omega)
                (try have hS9_8 : w8.heap.size < w9.heap.size := by omega)
                (try have hS9_8' : w8.heap.size + 1 < w9.heap.size := by omega)
                go_wp2
                go_roundw
                case rel =>
                  go_light
                  refine ⟨k + 1, _, _, _, by omega, by omega, by rw [← rword_add hrit.out, hfs.out], rit_next hrit.out, ?_, RWs.set hB9 hw0 _ _ _⟩
                  intro j h1 h2 h3
                  by_cases e : j = k
                  · subst e
                    rw [hrit.out] at h3
                    simp only [Prod.mk.injEq] at h3
                    exact HC.out ⟨h3.1, h3.2.1, h3.2.2⟩
                  · exact hbef.out j h1 (by omega) h3
                case measure =>
                  show n - ((⟨(rword k _ _ _).toArray⟩ : ByteArray) ++ ⟨#[112]⟩).size < n - (ByteArray.mk (rword k _ _ _).toArray).size
                  rw [ByteArray.size_append, rw_size]
                  show n - (k + 1) < n - k
                  omega
              · go_wp2_with fail
                refine (tpFlow_any _ _ _ _ (by assumption) (by assumption) (by assumption)).mono ?_
                rintro e10 w10 ⟨rfl, hB10⟩
                obtain ⟨hC10, hF10⟩ := bcell hB10
                have hS10 := hB10.size
                (try simp at hS10)
                (try have hS10_w0 : w.heap.size < w10.heap.size := by omega)
                (try have hS10_w1 : w.heap.size + 1 < w10.heap.size := by omega)
                (try have hS10_w2 : w.heap.size + 1 + 1 < w10.heap.size := by omega)
                (try have hS10_w3 : w.heap.size + 1 + 1 + 1 < w10.heap.size := by omega)
                (try have hS10_w4 : w.heap.size + 1 + 1 + 1 + 1 < w10.heap.size := by omega)
                (try have hL10_w0 : w.heap.size ≤ w10.heap.size := by omega)
                (try have hL10_w1 : w.heap.size + 1 ≤ w10.heap.size := by omega)
                (try have hL10_w2 : w.heap.size + 1 + 1 ≤ w10.heap.size := by omega)
                (try have hL10_w3 : w.heap.size + 1 + 1 + 1 ≤ w10.heap.size := by omega)
                (try have hL10_w : w.heap.size ≤ w10.heap.size + 1 := by omega)
                (try have hM10_1 : w.heap.size < w10.heap.size + 1 := by omega)
                (try have hM10_2 : w.heap.size < w10.heap.size + 1 + 1 := by omega)
                (try have hM10_3 : w.heap.size < w10.heap.size + 1 + 1 + 1 := by omega)
                (try have hN10_7_00 : w7.heap.size < w10.heap.size := by omega)
                (try have hN10_7_01 : w7.heap.size < w10.heap.size + 1 := by omega)
                (try have hN10_7_02 : w7.heap.size < w10.heap.size + 1 + 1 := by omega)
                (try have hN10_7_10 : w7.heap.size + 1 < w10.heap.size := by omega)
                (try have hN10_7_11 : w7.heap.size + 1 < w10.heap.size + 1 := by omega)
                (try have hN10_7_12 : w7.heap.size + 1 < w10.heap.size + 1 + 1 := by omega)
                (try have hN10_7_20 : w7.heap.size + 1 + 1 < w10.heap.size := by omega)
                (try have hN10_7_21 : w7.heap.size + 1 + 1 < w10.heap.size + 1 := by omega)
                (try have hN10_7_22 : w7.heap.size + 1 + 1 < w10.heap.size + 1 + 1 := by omega)
                (try have hN10_8_00 : w8.heap.size < w10.heap.size := by omega)
                (try have hN10_8_01 : w8.heap.size < w10.heap.size + 1 := by omega)
                (try have hN10_8_02 : w8.heap.size < w10.heap.size + 1 + 1 := by omega)
                (try have hN10_8_10 : w8.heap.size + 1 < w10.heap.size := by omega)
                (try have hN10_8_11 : w8.heap.size + 1 < w10.heap.size + 1 := by omega)
                (try have hN10_8_12 : w8.heap.size + 1 < w10.heap.size + 1 + 1 := by omega)
                (try have hN10_8_20 : w8.heap.size + 1 + 1 < w10.heap.size := by omega)
                (try have hN10_8_21 : w8.heap.size + 1 + 1 < w10.heap.size + 1 := by omega)
                (try have hN10_8_22 : w8.heap.size + 1 + 1 < w10.heap.size + 1 + 1 := by omega)
                (try have hN10_9_00 : w9.heap.size < w10.heap.size := by omega)
                (try have hN10_9_01 : w9.heap.size < w10.heap.size + 1 := by omega)
                (try have hN10_9_02 : w9.heap.size < w10.heap.size + 1 + 1 := by omega)
                (try have hN10_9_10 : w9.heap.size + 1 < w10.heap.size := by omega)
                (try have hN10_9_11 : w9.heap.size + 1 < w10.heap.size + 1 := by omega)
                (try have hN10_9_12 : w9.heap.size + 1 < w10.heap.size + 1 + 1 := by omega)
                (try have hN10_9_20 : w9.heap.size + 1 + 1 < w10.heap.size := by omega)
                (try have hN10_9_21 : w9.heap.size + 1 + 1 < w10.heap.size + 1 := by omega)
                (try have hN10_9_22 : w9.heap.size + 1 + 1 < w10.heap.size + 1 + 1 := by omega)
                (try have hL10_1 : w1.heap.size ≤ w10.heap.size := by omega)
                (try have hL10_2 : w2.heap.size ≤ w10.heap.size := by omega)
                (try have hL10_3 : w3.heap.size ≤ w10.heap.size := by omega)
                (try have hL10_4 : w4.heap.size ≤ w10.heap.size := by omega)
                (try have hL10_5 : w5.heap.size ≤ w10.heap.size := by omega)
                (try have hL10_6 : w6.heap.size ≤ w10.heap.size := by omega)
                (try have hL10_7 : w7.heap.size ≤ w10.heap.size := by omega)
                (try have hL10_8 : w8.heap.size ≤ w10.heap.size := by omega)
                (try have hL10_9 : w9.heap.size ≤ w10.heap.size := by omega)
                (try have hS10_1 : w1.heap.size < w10.heap.size := by omega)
                (try have hS10_1' : w1.heap.size + 1 < w10.heap.size := by omega)
                (try have hS10_2 : w2.heap.size < w10.heap.size := by omega)
                (try have hS10_2' : w2.heap.size + 1 < w10.heap.size := by omega)
                (try have hS10_3 : w3.heap.size < w10.heap.size := by omega)
                (try have hS10_3' : w3.heap.size + 1 < w10.heap.size := by omega)
                (try have hS10_4 : w4.heap.size < w10.heap.size := by omega)
                (try have hS10_4' : w4.heap.size + 1 < w10.heap.size := by omega)
                (try have hS10_5 : w5.heap.size < w10.heap.size := by omega)
                (try have hS10_5' : w5.heap.size + 1 < w10.heap.size := by omega)
                (try have hS10_6 : w6.heap.size < w10.heap.size := by omega)
                (try have hS10_6' : w6.heap.size + 1 < w10.heap.size := by omega)
                (try have hS10_7 : w7.heap.size < w10.heap.size := by omega)
                (try have hS10_7' : w7.heap.size + 1 < w10.heap.size := by omega)
                (try have hS10_8 : w8.heap.size < w10.heap.size := by omega)
                (try have hS10_8' : w8.heap.size + 1 < w10.heap.size := by omega)
                (try have hS10_9 : w9.heap.size < w10.heap.size := by omega)
                (try have hS10_9' : w9.heap.size + 1 < w10.heap.size := by omega)
                go_wp2
                go_roundw
                case rel =>
                  go_light
                  refine ⟨k + 1, _, _, _, by omega, by omega, by rw [← rword_add hrit.out, hfs.out], rit_next hrit.out, ?_, RWs.set hB10 hw0 _ _ _⟩
                  intro j h1 h2 h3
                  by_cases e : j = k
                  · subst e
                    rw [hrit.out] at h3
                    simp only [Prod.mk.injEq] at h3
                    exact HC.out ⟨h3.1, h3.2.1, h3.2.2⟩
                  · exact hbef.out j h1 (by omega) h3
                case measure =>
                  show n - ((⟨(rword k _ _ _).toArray⟩ : ByteArray) ++ ⟨#[112]⟩).size < n - (ByteArray.mk (rword k _ _ _).toArray).size
                  rw [ByteArray.size_append, rw_size]
                  show n - (k + 1) < n - k
                  omega
            · go_wp2_with fail
              refine (tpFlow_any _ _ _ _ (by assumption) (by assumption) (by assumption)).mono ?_
              rintro e11 w11 ⟨rfl, hB11⟩
              obtain ⟨hC11, hF11⟩ := bcell hB11
              have hS11 := hB11.size
              (try simp at hS11)
              (try have hS11_w0 : w.heap.size < w11.heap.size := by omega)
              (try have hS11_w1 : w.heap.size + 1 < w11.heap.size := by omega)
              (try have hS11_w2 : w.heap.size + 1 + 1 < w11.heap.size := by omega)
              (try have hS11_w3 : w.heap.size + 1 + 1 + 1 < w11.heap.size := by omega)
              (try have hS11_w4 : w.heap.size + 1 + 1 + 1 + 1 < w11.heap.size := by omega)
              (try have hL11_w0 : w.heap.size ≤ w11.heap.size := by omega)
              (try have hL11_w1 : w.heap.size + 1 ≤ w11.heap.size := by omega)
              (try have hL11_w2 : w.heap.size + 1 + 1 ≤ w11.heap.size := by omega)
              (try have hL11_w3 : w.heap.size + 1 + 1 + 1 ≤ w11.heap.size := by omega)
              (try have hL11_w : w.heap.size ≤ w11.heap.size + 1 := by omega)
              (try have hM11_1 : w.heap.size < w11.heap.size + 1 := by omega)
              (try have hM11_2 : w.heap.size < w11.heap.size + 1 + 1 := by omega)
              (try have hM11_3 : w.heap.size < w11.heap.size + 1 + 1 + 1 := by omega)
              (try have hN11_8_00 : w8.heap.size < w11.heap.size := by omega)
              (try have hN11_8_01 : w8.heap.size < w11.heap.size + 1 := by omega)
              (try have hN11_8_02 : w8.heap.size < w11.heap.size + 1 + 1 := by omega)
              (try have hN11_8_10 : w8.heap.size + 1 < w11.heap.size := by omega)
              (try have hN11_8_11 : w8.heap.size + 1 < w11.heap.size + 1 := by omega)
              (try have hN11_8_12 : w8.heap.size + 1 < w11.heap.size + 1 + 1 := by omega)
              (try have hN11_8_20 : w8.heap.size + 1 + 1 < w11.heap.size := by omega)
              (try have hN11_8_21 : w8.heap.size + 1 + 1 < w11.heap.size + 1 := by omega)
              (try have hN11_8_22 : w8.heap.size + 1 + 1 < w11.heap.size + 1 + 1 := by omega)
              (try have hN11_9_00 : w9.heap.size < w11.heap.size := by omega)
              (try have hN11_9_01 : w9.heap.size < w11.heap.size + 1 := by omega)
              (try have hN11_9_02 : w9.heap.size < w11.heap.size + 1 + 1 := by omega)
              (try have hN11_9_10 : w9.heap.size + 1 < w11.heap.size := by omega)
              (try have hN11_9_11 : w9.heap.size + 1 < w11.heap.size + 1 := by omega)
              (try have hN11_9_12 : w9.heap.size + 1 < w11.heap.size + 1 + 1 := by omega)
              (try have hN11_9_20 : w9.heap.size + 1 + 1 < w11.heap.size := by omega)
              (try have hN11_9_21 : w9.heap.size + 1 + 1 < w11.heap.size + 1 := by omega)
              (try have hN11_9_22 : w9.heap.size + 1 + 1 < w11.heap.size + 1 + 1 := by omega)
              (try have hN11_10_00 : w10.heap.size < w11.heap.size := by omega)
              (try have hN11_10_01 : w10.heap.size < w11.heap.size + 1 := by omega)
              (try have hN11_10_02 : w10.heap.size < w11.heap.size + 1 + 1 := by omega)
              (try have hN11_10_10 : w10.heap.size + 1 < w11.heap.size := by omega)
              (try have hN11_10_11 : w10.heap.size + 1 < w11.heap.size + 1 := by omega)
              (try have hN11_10_12 : w10.heap.size + 1 < w11.heap.size + 1 + 1 := by omega)
              (try have hN11_10_20 : w10.heap.size + 1 + 1 < w11.heap.size := by omega)
              (try have hN11_10_21 : w10.heap.size + 1 + 1 < w11.heap.size + 1 := by omega)
              (try have hN11_10_22 : w10.heap.size + 1 + 1 < w11.heap.size + 1 + 1 := by omega)
              (try have hL11_1 : w1.heap.size ≤ w11.heap.size := by omega)
              (try have hL11_2 : w2.heap.size ≤ w11.heap.size := by omega)
              (try have hL11_3 : w3.heap.size ≤ w11.heap.size := by omega)
              (try have hL11_4 : w4.heap.size ≤ w11.heap.size := by omega)
              (try have hL11_5 : w5.heap.size ≤ w11.heap.size := by omega)
              (try have hL11_6 : w6.heap.size ≤ w11.heap.size := by omega)
              (try have hL11_7 : w7.heap.size ≤ w11.heap.size := by omega)
              (try have hL11_8 : w8.heap.size ≤ w11.heap.size := by omega)
              (try have hL11_9 : w9.heap.size ≤ w11.heap.size := by omega)
              (try have hL11_10 : w10.heap.size ≤ w11.heap.size := by omega)
              (try have hS11_1 : w1.heap.size < w11.heap.size := by omega)
              (try have hS11_1' : w1.heap.size + 1 < w11.heap.size := by omega)
              (try have hS11_2 : w2.heap.size < w11.heap.size := by omega)
              (try have hS11_2' : w2.heap.size + 1 < w11.heap.size := by omega)
              (try have hS11_3 : w3.heap.size < w11.heap.size := by omega)
              (try have hS11_3' : w3.heap.size + 1 < w11.heap.size := by omega)
              (try have hS11_4 : w4.heap.size < w11.heap.size := by omega)
              (try have hS11_4' : w4.heap.size + 1 < w11.heap.size := by omega)
              (try have hS11_5 : w5.heap.size < w11.heap.size := by omega)
              (try have hS11_5' : w5.heap.size + 1 < w11.heap.size := by omega)
              (try have hS11_6 : w6.heap.size < w11.heap.size := by omega)
              (try have hS11_6' : w6.heap.size + 1 < w11.heap.size := by omega)
              (try have hS11_7 : w7.heap.size < w11.heap.size := by omega)
              (try have hS11_7' : w7.heap.size + 1 < w11.heap.size := by omega)
              (try have hS11_8 : w8.heap.size < w11.heap.size := by omega)
              (try have hS11_8' : w8.heap.size + 1 < w11.heap.size := by omega)
              (try have hS11_9 : w9.heap.size < w11.heap.size := by omega)
              (try have hS11_9' : w9.heap.size + 1 < w11.heap.size := by omega)
              (try have hS11_10 : w10.heap.size < w11.heap.size := by omega)
              (try have hS11_10' : w10.heap.size + 1 < w11.heap.size := by omega)
              go_wp2
              go_roundw
              case rel =>
                go_light
                refine ⟨k + 1, _, _, _, by omega, by omega, by rw [← rword_add hrit.out, hfs.out], rit_next hrit.out, ?_, RWs.set hB11 hw0 _ _ _⟩
                intro j h1 h2 h3
                by_cases e : j = k
                · subst e
                  rw [hrit.out] at h3
                  simp only [Prod.mk.injEq] at h3
                  exact HC.out ⟨h3.1, h3.2.1, h3.2.2⟩
                · exact hbef.out j h1 (by omega) h3
              case measure =>
                show n - ((⟨(rword k _ _ _).toArray⟩ : ByteArray) ++ ⟨#[112]⟩).size < n - (ByteArray.mk (rword k _ _ _).toArray).size
                rw [ByteArray.size_append, rw_size]
                show n - (k + 1) < n - k
                omega
          · have hd2 : decide (0 < p + q + r) = false := by simpa using hs2
            have hfs : Hid (fS p q r = ⟨#[110]⟩) := by show _ = _; rw [fS, if_neg hs2]
            clear hs2
            by_cases e1 : p = a
            · subst e1
              by_cases e2 : q = b
              · subst e2
                have e3 : ¬ r = c := fun e => HC.out ⟨rfl, rfl, e⟩
                go_wp2_with fail
                refine (tpFlow_any _ _ _ _ (by assumption) (by assumption) (by assumption)).mono ?_
                rintro e12 w12 ⟨rfl, hB12⟩
                obtain ⟨hC12, hF12⟩ := bcell hB12
                have hS12 := hB12.size
                (try simp at hS12)
                (try have hS12_w0 : w.heap.size < w12.heap.size := by omega)
                (try have hS12_w1 : w.heap.size + 1 < w12.heap.size := by omega)
                (try have hS12_w2 : w.heap.size + 1 + 1 < w12.heap.size := by omega)
                (try have hS12_w3 : w.heap.size + 1 + 1 + 1 < w12.heap.size := by omega)
                (try have hS12_w4 : w.heap.size + 1 + 1 + 1 + 1 < w12.heap.size := by omega)
                (try have hL12_w0 : w.heap.size ≤ w12.heap.size := by omega)
                (try have hL12_w1 : w.heap.size + 1 ≤ w12.heap.size := by omega)
                (try have hL12_w2 : w.heap.size + 1 + 1 ≤ w12.heap.size := by omega)
                (try have hL12_w3 : w.heap.size + 1 + 1 + 1 ≤ w12.heap.size := by omega)
                (try have hL12_w : w.heap.size ≤ w12.heap.size + 1 := by omega)
                (try have hM12_1 : w.heap.size < w12.heap.size + 1 := by omega)
                (try have hM12_2 : w.heap.size < w12.heap.size + 1 + 1 := by omega)
                (try have hM12_3 : w.heap.size < w12.heap.size + 1 + 1 + 1 := by omega)
                (try have hN12_9_00 : w9.heap.size < w12.heap.size := by omega)
                (try have hN12_9_01 : w9.heap.size < w12.heap.size + 1 := by omega)
                (try have hN12_9_02 : w9.heap.size < w12.heap.size + 1 + 1 := by omega)
                (try have hN12_9_10 : w9.heap.size + 1 < w12.heap.size := by omega)
                (try have hN12_9_11 : w9.heap.size + 1 < w12.heap.size + 1 := by omega)
                (try have hN12_9_12 : w9.heap.size + 1 < w12.heap.size + 1 + 1 := by omega)
                (try have hN12_9_20 : w9.heap.size + 1 + 1 < w12.heap.size := by omega)
                (try have hN12_9_21 : w9.heap.size + 1 + 1 < w12.heap.size + 1 := by omega)
                (try have hN12_9_22 : w9.heap.size + 1 + 1 < w12.heap.size + 1 + 1 := by omega)
                (try have hN12_10_00 : w10.heap.size < w12.heap.size := by omega)
                (try have hN12_10_01 : w10.heap.size < w12.heap.size + 1 := by omega)
                (try have hN12_10_02 : w10.heap.size < w12.heap.size + 1 + 1 := by omega)
                (try have hN12_10_10 : w10.heap.size + 1 < w12.heap.size := by omega)
                (try have hN12_10_11 : w10.heap.size + 1 < w12.heap.size + 1 := by omega)
                (try have hN12_10_12 : w10.heap.size + 1 < w12.heap.size + 1 + 1 := by omega)
                (try have hN12_10_20 : w10.heap.size + 1 + 1 < w12.heap.size := by omega)
                (try have hN12_10_21 : w10.heap.size + 1 + 1 < w12.heap.size + 1 := by omega)
                (try have hN12_10_22 : w10.heap.size + 1 + 1 < w12.heap.size + 1 + 1 := by omega)
                (try have hN12_11_00 : w11.heap.size < w12.heap.size := by omega)
                (try have hN12_11_01 : w11.heap.size < w12.heap.size + 1 := by omega)
                (try have hN12_11_02 : w11.heap.size < w12.heap.size + 1 + 1 := by omega)
                (try have hN12_11_10 : w11.heap.size + 1 < w12.heap.size := by omega)
                (try have hN12_11_11 : w11.heap.size + 1 < w12.heap.size + 1 := by omega)
                (try have hN12_11_12 : w11.heap.size + 1 < w12.heap.size + 1 + 1 := by omega)
                (try have hN12_11_20 : w11.heap.size + 1 + 1 < w12.heap.size := by omega)
                (try have hN12_11_21 : w11.heap.size + 1 + 1 < w12.heap.size + 1 := by omega)
                (try have hN12_11_22 : w11.heap.size + 1 + 1 < w12.heap.size + 1 + 1 := by omega)
                (try have hL12_1 : w1.heap.size ≤ w12.heap.size := by omega)
                (try have hL12_2 : w2.heap.size ≤ w12.heap.size := by omega)
                (try have hL12_3 : w3.heap.size ≤ w12.heap.size := by omega)
                (try have hL12_4 : w4.heap.size ≤ w12.heap.size := by omega)
                (try have hL12_5 : w5.heap.size ≤ w12.heap.size := by omega)
                (try have hL12_6 : w6.heap.size ≤ w12.heap.size := by omega)
                (try have hL12_7 : w7.heap.size ≤ w12.heap.size := by omega)
                (try have hL12_8 : w8.heap.size ≤ w12.heap.size := by omega)
                (try have hL12_9 : w9.heap.size ≤ w12.heap.size := by omega)
                (try have hL12_10 : w10.heap.size ≤ w12.heap.size := by omega)
                (try have hL12_11 : w11.heap.size ≤ w12.heap.size := by omega)
                (try have hS12_1 : w1.heap.size < w12.heap.size := by omega)
                (try have hS12_1' : w1.heap.size + 1 < w12.heap.size := by omega)
                (try have hS12_2 : w2.heap.size < w12.heap.size := by omega)
                (try have hS12_2' : w2.heap.size + 1 < w12.heap.size := by omega)
                (try have hS12_3 : w3.heap.size < w12.heap.size := by omega)
                (try have hS12_3' : w3.heap.size + 1 < w12.heap.size := by omega)
                (try have hS12_4 : w4.heap.size < w12.heap.size := by omega)
                (try have hS12_4' : w4.heap.size + 1 < w12.heap.size := by omega)
                (try have hS12_5 : w5.heap.size < w12.heap.size := by omega)
                (try have hS12_5' : w5.heap.size + 1 < w12.heap.size := by omega)
                (try have hS12_6 : w6.heap.size < w12.heap.size := by omega)
                (try have hS12_6' : w6.heap.size + 1 < w12.heap.size := by omega)
                (try have hS12_7 : w7.heap.size < w12.heap.size := by omega)
                (try have hS12_7' : w7.heap.size + 1 < w12.heap.size := by omega)
                (try have hS12_8 : w8.heap.size < w12.heap.size := by omega)
                (try have hS12_8' : w8.heap.size + 1 < w12.heap.size := by omega)
                (try have hS12_9 : w9.heap.size < w12.heap.size := by omega)
                (try have hS12_9' : w9.heap.size + 1 < w12.heap.size := by omega)
                (try have hS12_10 : w10.heap.size < w12.heap.size := by omega)
                (try have hS12_10' : w10.heap.size + 1 < w12.heap.size := by omega)
                (try have hS12_11 : w11.heap.size < w12.heap.size := by omega)
                (try have hS12_11' : w11.heap.size + 1 < w12.heap.size := by omega)
                go_wp2
                go_roundw
                case rel =>
                  go_light
                  refine ⟨k + 1, _, _, _, by omega, by omega, by rw [← rword_add hrit.out, hfs.out], rit_next hrit.out, ?_, RWs.set hB12 hw0 _ _ _⟩
                  intro j h1 h2 h3
                  by_cases e : j = k
                  · subst e
                    rw [hrit.out] at h3
                    simp only [Prod.mk.injEq] at h3
                    exact HC.out ⟨h3.1, h3.2.1, h3.2.2⟩
                  · exact hbef.out j h1 (by omega) h3
                case measure =>
                  show n - ((⟨(rword k _ _ _).toArray⟩ : ByteArray) ++ ⟨#[110]⟩).size < n - (ByteArray.mk (rword k _ _ _).toArray).size
                  rw [ByteArray.size_append, rw_size]
                  show n - (k + 1) < n - k
                  omega
              · go_wp2_with fail
                refine (tpFlow_any _ _ _ _ (by assumption) (by assumption) (by assumption)).mono ?_
                rintro e13 w13 ⟨rfl, hB13⟩
                obtain ⟨hC13, hF13⟩ := bcell hB13
                have hS13 := hB13.size
                (try simp at hS13)
                (try have hS13_w0 : w.heap.size < w13.heap.size := by omega)
                (try have hS13_w1 : w.heap.size + 1 < w13.heap.size := by omega)
                (try have hS13_w2 : w.heap.size + 1 + 1 < w13.heap.size := by omega)
                (try have hS13_w3 : w.heap.size + 1 + 1 + 1 < w13.heap.size := by omega)
                (try have hS13_w4 : w.heap.size + 1 + 1 + 1 + 1 < w13.heap.size := by omega)
                (try have hL13_w0 : w.heap.size ≤ w13.heap.size := by omega)
                (try have hL13_w1 : w.heap.size + 1 ≤ w13.heap.size := by omega)
                (try have hL13_w2 : w.heap.size + 1 + 1 ≤ w13.heap.size := by omega)
                (try have hL13_w3 : w.heap.size + 1 + 1 + 1 ≤ w13.heap.size := by omega)
                (try have hL13_w : w.heap.size ≤ w13.heap.size + 1 := by omega)
                (try have hM13_1 : w.heap.size < w13.heap.size + 1 := by omega)
                (try have hM13_2 : w.heap.size < w13.heap.size + 1 + 1 := by omega)
                (try have hM13_3 : w.heap.size < w13.heap.size + 1 + 1 + 1 := by omega)
                (try have hN13_10_00 : w10.heap.size < w13.heap.size := by omega)
                (try have hN13_10_01 : w10.heap.size < w13.heap.size + 1 := by omega)
                (try have hN13_10_02 : w10.heap.size < w13.heap.size + 1 + 1 := by omega)
                (try have hN13_10_10 : w10.heap.size + 1 < w13.heap.size := by omega)
                (try have hN13_10_11 : w10.heap.size + 1 < w13.heap.size + 1 := by omega)
                (try have hN13_10_12 : w10.heap.size + 1 < w13.heap.size + 1 + 1 := by omega)
                (try have hN13_10_20 : w10.heap.size + 1 + 1 < w13.heap.size := by omega)
                (try have hN13_10_21 : w10.heap.size + 1 + 1 < w13.heap.size + 1 := by omega)
                (try have hN13_10_22 : w10.heap.size + 1 + 1 < w13.heap.size + 1 + 1 := by omega)
                (try have hN13_11_00 : w11.heap.size < w13.heap.size := by omega)
                (try have hN13_11_01 : w11.heap.size < w13.heap.size + 1 := by omega)
                (try have hN13_11_02 : w11.heap.size < w13.heap.size + 1 + 1 := by omega)
                (try have hN13_11_10 : w11.heap.size + 1 < w13.heap.size := by omega)
                (try have hN13_11_11 : w11.heap.size + 1 < w13.heap.size + 1 := by omega)
                (try have hN13_11_12 : w11.heap.size + 1 < w13.heap.size + 1 + 1 := by omega)
                (try have hN13_11_20 : w11.heap.size + 1 + 1 < w13.heap.size := by omega)
                (try have hN13_11_21 : w11.heap.size + 1 + 1 < w13.heap.size + 1 := by omega)
                (try have hN13_11_22 : w11.heap.size + 1 + 1 < w13.heap.size + 1 + 1 := by omega)
                (try have hN13_12_00 : w12.heap.size < w13.heap.size := by omega)
                (try have hN13_12_01 : w12.heap.size < w13.heap.size + 1 := by omega)
                (try have hN13_12_02 : w12.heap.size < w13.heap.size + 1 + 1 := by omega)
                (try have hN13_12_10 : w12.heap.size + 1 < w13.heap.size := by omega)
                (try have hN13_12_11 : w12.heap.size + 1 < w13.heap.size + 1 := by omega)
                (try have hN13_12_12 : w12.heap.size + 1 < w13.heap.size + 1 + 1 := by omega)
                (try have hN13_12_20 : w12.heap.size + 1 + 1 < w13.heap.size := by omega)
                (try have hN13_12_21 : w12.heap.size + 1 + 1 < w13.heap.size + 1 := by omega)
                (try have hN13_12_22 : w12.heap.size + 1 + 1 < w13.heap.size + 1 + 1 := by omega)
                (try have hL13_1 : w1.heap.size ≤ w13.heap.size := by omega)
                (try have hL13_2 : w2.heap.size ≤ w13.heap.size := by omega)
                (try have hL13_3 : w3.heap.size ≤ w13.heap.size := by omega)
                (try have hL13_4 : w4.heap.size ≤ w13.heap.size := by omega)
                (try have hL13_5 : w5.heap.size ≤ w13.heap.size := by omega)
                (try have hL13_6 : w6.heap.size ≤ w13.heap.size := by omega)
                (try have hL13_7 : w7.heap.size ≤ w13.heap.size := by omega)
                (try have hL13_8 : w8.heap.size ≤ w13.heap.size := by omega)
                (try have hL13_9 : w9.heap.size ≤ w13.heap.size := by omega)
                (try have hL13_10 : w10.heap.size ≤ w13.heap.size := by omega)
                (try have hL13_11 : w11.heap.size ≤ w13.heap.size := by omega)
                (try have hL13_12 : w12.heap.size ≤ w13.heap.size := by omega)
                (try have hS13_1 : w1.heap.size < w13.heap.size := by omega)
                (try have hS13_1' : w1.heap.size + 1 < w13.heap.size := by omega)
                (try have hS13_2 : w2.heap.size < w13.heap.size := by omega)
                (try have hS13_2' : w2.heap.size + 1 < w13.heap.size := by omega)
                (try have hS13_3 : w3.heap.size < w13.heap.size := by omega)
                (try have hS13_3' : w3.heap.size + 1 < w13.heap.size := by omega)
                (try have hS13_4 : w4.heap.size < w13.heap.size := by omega)
                (try have hS13_4' : w4.heap.size + 1 < w13.heap.size := by omega)
                (try have hS13_5 : w5.heap.size < w13.heap.size := by omega)
                (try have hS13_5' : w5.heap.size + 1 < w13.heap.size := by omega)
                (try have hS13_6 : w6.heap.size < w13.heap.size := by omega)
                (try have hS13_6' : w6.heap.size + 1 < w13.heap.size := by omega)
                (try have hS13_7 : w7.heap.size < w13.heap.size := by omega)
                (try have hS13_7' : w7.heap.size + 1 < w13.heap.size := by omega)
                (try have hS13_8 : w8.heap.size < w13.heap.size := by omega)
                (try have hS13_8' : w8.heap.size + 1 < w13.heap.size := by omega)
                (try have hS13_9 : w9.heap.size < w13.heap.size := by omega)
                (try have hS13_9' : w9.heap.size + 1 < w13.heap.size := by omega)
                (try have hS13_10 : w10.heap.size < w13.heap.size := by omega)
                (try have hS13_10' : w10.heap.size + 1 < w13.heap.size := by omega)
                (try have hS13_11 : w11.heap.size < w13.heap.size := by omega)
                (try have hS13_11' : w11.heap.size + 1 < w13.heap.size := by omega)
                (try have hS13_12 : w12.heap.size < w13.heap.size := by omega)
                (try have hS13_12' : w12.heap.size + 1 < w13.heap.size := by omega)
                go_wp2
                go_roundw
                case rel =>
                  go_light
                  refine ⟨k + 1, _, _, _, by omega, by omega, by rw [← rword_add hrit.out, hfs.out], rit_next hrit.out, ?_, RWs.set hB13 hw0 _ _ _⟩
                  intro j h1 h2 h3
                  by_cases e : j = k
                  · subst e
                    rw [hrit.out] at h3
                    simp only [Prod.mk.injEq] at h3
                    exact HC.out ⟨h3.1, h3.2.1, h3.2.2⟩
                  · exact hbef.out j h1 (by omega) h3
                case measure =>
                  show n - ((⟨(rword k _ _ _).toArray⟩ : ByteArray) ++ ⟨#[110]⟩).size < n - (ByteArray.mk (rword k _ _ _).toArray).size
                  rw [ByteArray.size_append, rw_size]
                  show n - (k + 1) < n - k
                  omega
            · go_wp2_with fail
              refine (tpFlow_any _ _ _ _ (by assumption) (by assumption) (by assumption)).mono ?_
              rintro e14 w14 ⟨rfl, hB14⟩
              obtain ⟨hC14, hF14⟩ := bcell hB14
              have hS14 := hB14.size
              (try simp at hS14)
              (try have hS14_w0 : w.heap.size < w14.heap.size := by omega)
              (try have hS14_w1 : w.heap.size + 1 < w14.heap.size := by omega)
              (try have hS14_w2 : w.heap.size + 1 + 1 < w14.heap.size := by omega)
              (try have hS14_w3 : w.heap.size + 1 + 1 + 1 < w14.heap.size := by omega)
              (try have hS14_w4 : w.heap.size + 1 + 1 + 1 + 1 < w14.heap.size := by omega)
              (try have hL14_w0 : w.heap.size ≤ w14.heap.size := by omega)
              (try have hL14_w1 : w.heap.size + 1 ≤ w14.heap.size := by omega)
              (try have hL14_w2 : w.heap.size + 1 + 1 ≤ w14.heap.size := by omega)
              (try have hL14_w3 : w.heap.size + 1 + 1 + 1 ≤ w14.heap.size := by omega)
              (try have hL14_w : w.heap.size ≤ w14.heap.size + 1 := by omega)
              (try have hM14_1 : w.heap.size < w14.heap.size + 1 := by omega)
              (try have hM14_2 : w.heap.size < w14.heap.size + 1 + 1 := by omega)
              (try have hM14_3 : w.heap.size < w14.heap.size + 1 + 1 + 1 := by omega)
              (try have hN14_11_00 : w11.heap.size < w14.heap.size := by omega)
              (try have hN14_11_01 : w11.heap.size < w14.heap.size + 1 := by omega)
              (try have hN14_11_02 : w11.heap.size < w14.heap.size + 1 + 1 := by omega)
              (try have hN14_11_10 : w11.heap.size + 1 < w14.heap.size := by omega)
              (try have hN14_11_11 : w11.heap.size + 1 < w14.heap.size + 1 := by omega)
              (try have hN14_11_12 : w11.heap.size + 1 < w14.heap.size + 1 + 1 := by omega)
              (try have hN14_11_20 : w11.heap.size + 1 + 1 < w14.heap.size := by omega)
              (try have hN14_11_21 : w11.heap.size + 1 + 1 < w14.heap.size + 1 := by omega)
              (try have hN14_11_22 : w11.heap.size + 1 + 1 < w14.heap.size + 1 + 1 := by omega)
              (try have hN14_12_00 : w12.heap.size < w14.heap.size := by omega)
              (try have hN14_12_01 : w12.heap.size < w14.heap.size + 1 := by omega)
              (try have hN14_12_02 : w12.heap.size < w14.heap.size + 1 + 1 := by omega)
              (try have hN14_12_10 : w12.heap.size + 1 < w14.heap.size := by omega)
              (try have hN14_12_11 : w12.heap.size + 1 < w14.heap.size + 1 := by omega)
              (try have hN14_12_12 : w12.heap.size + 1 < w14.heap.size + 1 + 1 := by omega)
              (try have hN14_12_20 : w12.heap.size + 1 + 1 < w14.heap.size := by omega)
              (try have hN14_12_21 : w12.heap.size + 1 + 1 < w14.heap.size + 1 := by omega)
              (try have hN14_12_22 : w12.heap.size + 1 + 1 < w14.heap.size + 1 + 1 := by omega)
              (try have hN14_13_00 : w13.heap.size < w14.heap.size := by omega)
              (try have hN14_13_01 : w13.heap.size < w14.heap.size + 1 := by omega)
              (try have hN14_13_02 : w13.heap.size < w14.heap.size + 1 + 1 := by omega)
              (try have hN14_13_10 : w13.heap.size + 1 < w14.heap.size := by omega)
              (try have hN14_13_11 : w13.heap.size + 1 < w14.heap.size + 1 := by omega)
              (try have hN14_13_12 : w13.heap.size + 1 < w14.heap.size + 1 + 1 := by omega)
              (try have hN14_13_20 : w13.heap.size + 1 + 1 < w14.heap.size := by omega)
              (try have hN14_13_21 : w13.heap.size + 1 + 1 < w14.heap.size + 1 := by omega)
              (try have hN14_13_22 : w13.heap.size + 1 + 1 < w14.heap.size + 1 + 1 := by omega)
              (try have hL14_1 : w1.heap.size ≤ w14.heap.size := by omega)
              (try have hL14_2 : w2.heap.size ≤ w14.heap.size := by omega)
              (try have hL14_3 : w3.heap.size ≤ w14.heap.size := by omega)
              (try have hL14_4 : w4.heap.size ≤ w14.heap.size := by omega)
              (try have hL14_5 : w5.heap.size ≤ w14.heap.size := by omega)
              (try have hL14_6 : w6.heap.size ≤ w14.heap.size := by omega)
              (try have hL14_7 : w7.heap.size ≤ w14.heap.size := by omega)
              (try have hL14_8 : w8.heap.size ≤ w14.heap.size := by omega)
              (try have hL14_9 : w9.heap.size ≤ w14.heap.size := by omega)
              (try have hL14_10 : w10.heap.size ≤ w14.heap.size := by omega)
              (try have hL14_11 : w11.heap.size ≤ w14.heap.size := by omega)
              (try have hL14_12 : w12.heap.size ≤ w14.heap.size := by omega)
              (try have hL14_13 : w13.heap.size ≤ w14.heap.size := by omega)
              (try have hS14_1 : w1.heap.size < w14.heap.size := by omega)
              (try have hS14_1' : w1.heap.size + 1 < w14.heap.size := by omega)
              (try have hS14_2 : w2.heap.size < w14.heap.size := by omega)
              (try have hS14_2' : w2.heap.size + 1 < w14.heap.size := by omega)
              (try have hS14_3 : w3.heap.size < w14.heap.size := by omega)
              (try have hS14_3' : w3.heap.size + 1 < w14.heap.size := by omega)
              (try have hS14_4 : w4.heap.size < w14.heap.size := by omega)
              (try have hS14_4' : w4.heap.size + 1 < w14.heap.size := by omega)
              (try have hS14_5 : w5.heap.size < w14.heap.size := by omega)
              (try have hS14_5' : w5.heap.size + 1 < w14.heap.size := by omega)
              (try have hS14_6 : w6.heap.size < w14.heap.size := by omega)
              (try have hS14_6' : w6.heap.size + 1 < w14.heap.size := by omega)
              (try have hS14_7 : w7.heap.size < w14.heap.size := by omega)
              (try have hS14_7' : w7.heap.size + 1 < w14.heap.size := by omega)
              (try have hS14_8 : w8.heap.size < w14.heap.size := by omega)
              (try have hS14_8' : w8.heap.size + 1 < w14.heap.size := by omega)
              (try have hS14_9 : w9.heap.size < w14.heap.size := by omega)
              (try have hS14_9' : w9.heap.size + 1 < w14.heap.size := by omega)
              (try have hS14_10 : w10.heap.size < w14.heap.size := by omega)
              (try have hS14_10' : w10.heap.size + 1 < w14.heap.size := by omega)
              (try have hS14_11 : w11.heap.size < w14.heap.size := by omega)
              (try have hS14_11' : w11.heap.size + 1 < w14.heap.size := by omega)
              (try have hS14_12 : w12.heap.size < w14.heap.size := by omega)
              (try have hS14_12' : w12.heap.size + 1 < w14.heap.size := by omega)
              (try have hS14_13 : w13.heap.size < w14.heap.size := by omega)
              (try have hS14_13' : w13.heap.size + 1 < w14.heap.size := by omega)
              go_wp2
              go_roundw
              case rel =>
                go_light
                refine ⟨k + 1, _, _, _, by omega, by omega, by rw [← rword_add hrit.out, hfs.out], rit_next hrit.out, ?_, RWs.set hB14 hw0 _ _ _⟩
                intro j h1 h2 h3
                by_cases e : j = k
                · subst e
                  rw [hrit.out] at h3
                  simp only [Prod.mk.injEq] at h3
                  exact HC.out ⟨h3.1, h3.2.1, h3.2.2⟩
                · exact hbef.out j h1 (by omega) h3
              case measure =>
                show n - ((⟨(rword k _ _ _).toArray⟩ : ByteArray) ++ ⟨#[110]⟩).size < n - (ByteArray.mk (rword k _ _ _).toArray).size
                rw [ByteArray.size_append, rw_size]
                show n - (k + 1) < n - k
                omega
theorem specRiverWord_any (a b c : Int) (w : World) :
    Calls Try.prog 20 #[.agg #[.int .i64 a, .int .i64 b, .int .i64 c]] w fun en w' => en = .returned (.tuple #[.string (rzS (edgeB a b c) (rwS a b c)), .bool (edgeB a b c)]) ∧ Below w.heap.size w w' := by
  by_cases c1 : edgeB a b c = true
  · have c2 : rivB a b c = true := by simp only [edgeB, Bool.and_eq_true] at c1; exact c1.1.1
    have c3 : 0 < a := by simp only [edgeB, Bool.and_eq_true, decide_eq_true_eq] at c1; exact c1.1.2
    have c4 : c < 0 := by simp only [edgeB, Bool.and_eq_true, decide_eq_true_eq] at c1; exact c1.2
    go_enter Try.func20, Try.ntmps20
    go_wp2_with (first | (go_at_call 37; refine (tpWet_any _ _ _ _).mono ?_; rintro e w' ⟨rfl, hB⟩; obtain ⟨hC, hF⟩ := bcell hB; have hS := hB.size; (try simp at hS); (try have hSl := Nat.lt_of_succ_le hS); (try have hS0 : w.heap.size < w'.heap.size := by omega); (try have hS1 : w.heap.size + 1 < w'.heap.size := by omega); (try have hS2 : w.heap.size + 1 + 1 < w'.heap.size := by omega); (try have hS3 : w.heap.size + 1 + 1 + 1 < w'.heap.size := by omega)) | (go_at_call 41; refine (tpWord_any _ _ _ _ c1).mono ?_; rintro e w' ⟨rfl, hB⟩; obtain ⟨hC, hF⟩ := bcell hB; have hS := hB.size; (try simp at hS); (try have hSl := Nat.lt_of_succ_le hS); (try have hS0 : w.heap.size < w'.heap.size := by omega); (try have hS1 : w.heap.size + 1 < w'.heap.size := by omega); (try have hS2 : w.heap.size + 1 + 1 < w'.heap.size := by omega); (try have hS3 : w.heap.size + 1 + 1 + 1 < w'.heap.size := by omega)))
    go_ret2
    refine ⟨?_, ?_⟩
    · go_light
      rw [c1]
      rfl
    · repeat (first | with_reducible exact Below.refl _ _ | with_reducible assumption | ((with_reducible refine blA ?_ ?_); (focus (first | omega | (simp <;> omega)))) | (with_reducible refine blD ?_) | (with_reducible refine blN ?_) | ((with_reducible refine blS ?_ ?_); (focus (first | omega | (simp <;> omega)))) | ((with_reducible refine blT (by assumption) ?_ ?_); (focus (first | omega | (simp <;> omega)))))
  · have c1' : edgeB a b c = false := by simpa using c1
    have hs : Hid (rzS (edgeB a b c) (rwS a b c) = ⟨#[]⟩) := by show _ = _; rw [c1']; rfl
    have HC := Lib.hid c1
    clear c1
    by_cases c2 : rivB a b c = true
    · by_cases c3 : 0 < a
      · have c4 : ¬ c < 0 := fun h => by have := HC.out; simp [edgeB, c2, c3, h] at this
        go_enter Try.func20, Try.ntmps20
        go_wp2_with (go_at_call 37; refine (tpWet_any _ _ _ _).mono ?_; rintro e w' ⟨rfl, hB⟩; obtain ⟨hC, hF⟩ := bcell hB; have hS := hB.size; (try simp at hS); (try have hSl := Nat.lt_of_succ_le hS); (try have hS0 : w.heap.size < w'.heap.size := by omega); (try have hS1 : w.heap.size + 1 < w'.heap.size := by omega); (try have hS2 : w.heap.size + 1 + 1 < w'.heap.size := by omega); (try have hS3 : w.heap.size + 1 + 1 + 1 < w'.heap.size := by omega))
        go_ret2
        refine ⟨?_, ?_⟩
        · go_light
          rw [hs.out, c1']
          rfl
        · repeat (first | with_reducible exact Below.refl _ _ | with_reducible assumption | ((with_reducible refine blA ?_ ?_); (focus (first | omega | (simp <;> omega)))) | (with_reducible refine blD ?_) | (with_reducible refine blN ?_) | ((with_reducible refine blS ?_ ?_); (focus (first | omega | (simp <;> omega)))) | ((with_reducible refine blT (by assumption) ?_ ?_); (focus (first | omega | (simp <;> omega)))))
      · go_enter Try.func20, Try.ntmps20
        go_wp2_with (go_at_call 37; refine (tpWet_any _ _ _ _).mono ?_; rintro e w' ⟨rfl, hB⟩; obtain ⟨hC, hF⟩ := bcell hB; have hS := hB.size; (try simp at hS); (try have hSl := Nat.lt_of_succ_le hS); (try have hS0 : w.heap.size < w'.heap.size := by omega); (try have hS1 : w.heap.size + 1 < w'.heap.size := by omega); (try have hS2 : w.heap.size + 1 + 1 < w'.heap.size := by omega); (try have hS3 : w.heap.size + 1 + 1 + 1 < w'.heap.size := by omega))
        go_ret2
        refine ⟨?_, ?_⟩
        · go_light
          rw [hs.out, c1']
          rfl
        · repeat (first | with_reducible exact Below.refl _ _ | with_reducible assumption | ((with_reducible refine blA ?_ ?_); (focus (first | omega | (simp <;> omega)))) | (with_reducible refine blD ?_) | (with_reducible refine blN ?_) | ((with_reducible refine blS ?_ ?_); (focus (first | omega | (simp <;> omega)))) | ((with_reducible refine blT (by assumption) ?_ ?_); (focus (first | omega | (simp <;> omega)))))
    · have c2' : rivB a b c = false := by simpa using c2
      clear c2
      go_enter Try.func20, Try.ntmps20
      go_wp2_with (go_at_call 37; refine (tpWet_any _ _ _ _).mono ?_; rintro e w' ⟨rfl, hB⟩; obtain ⟨hC, hF⟩ := bcell hB; have hS := hB.size; (try simp at hS); (try have hSl := Nat.lt_of_succ_le hS); (try have hS0 : w.heap.size < w'.heap.size := by omega); (try have hS1 : w.heap.size + 1 < w'.heap.size := by omega); (try have hS2 : w.heap.size + 1 + 1 < w'.heap.size := by omega); (try have hS3 : w.heap.size + 1 + 1 + 1 < w'.heap.size := by omega))
      go_ret2
      refine ⟨?_, ?_⟩
      · go_light
        rw [hs.out, c1']
        rfl
      · repeat (first | with_reducible exact Below.refl _ _ | with_reducible assumption | ((with_reducible refine blA ?_ ?_); (focus (first | omega | (simp <;> omega)))) | (with_reducible refine blD ?_) | (with_reducible refine blN ?_) | ((with_reducible refine blS ?_ ?_); (focus (first | omega | (simp <;> omega)))) | ((with_reducible refine blT (by assumption) ?_ ?_); (focus (first | omega | (simp <;> omega)))))
theorem law_riverWord (a b c : Int) (w : World) (_ : I64 a) (_ : I64 b) (_ : I64 c) :
    Calls Try.prog 7 #[.agg #[.int .i64 a, .int .i64 b, .int .i64 c]] w fun en w' => en = .returned (.bool true) ∧ Below w.heap.size w w' := by
  go_enter Try.func7, Try.ntmps7
  go_wp2_with (first | (go_at_call 13; refine (toForm_any _ _ _ _).mono ?_; rintro e w' ⟨rfl, hB⟩; obtain ⟨hC, hF⟩ := bcell hB; have hS := hB.size; (try simp at hS); (try have hSl := Nat.lt_of_succ_le hS); (try have hS0 : w.heap.size < w'.heap.size := by omega); (try have hS1 : w.heap.size + 1 < w'.heap.size := by omega); (try have hS2 : w.heap.size + 1 + 1 < w'.heap.size := by omega); (try have hS3 : w.heap.size + 1 + 1 + 1 < w'.heap.size := by omega)) | (go_at_call 20; refine (specRiverWord_any _ _ _ _).mono ?_; rintro e w' ⟨rfl, hB⟩; obtain ⟨hC, hF⟩ := bcell hB; have hS := hB.size; (try simp at hS); (try have hSl := Nat.lt_of_succ_le hS); (try have hS0 : w.heap.size < w'.heap.size := by omega); (try have hS1 : w.heap.size + 1 < w'.heap.size := by omega); (try have hS2 : w.heap.size + 1 + 1 < w'.heap.size := by omega); (try have hS3 : w.heap.size + 1 + 1 + 1 < w'.heap.size := by omega)) | (go_at_call 21; refine (implRiverWord_any _ _ _ _).mono ?_; rintro e w' ⟨rfl, hB⟩; obtain ⟨hC, hF⟩ := bcell hB; have hS := hB.size; (try simp at hS); (try have hSl := Nat.lt_of_succ_le hS); (try have hS0 : w.heap.size < w'.heap.size := by omega); (try have hS1 : w.heap.size + 1 < w'.heap.size := by omega); (try have hS2 : w.heap.size + 1 + 1 < w'.heap.size := by omega); (try have hS3 : w.heap.size + 1 + 1 + 1 < w'.heap.size := by omega)))
  go_ret
  refine ⟨rfl, ?_⟩
  repeat (first | with_reducible exact Below.refl _ _ | with_reducible assumption | ((with_reducible refine blA ?_ ?_); (focus (first | omega | (simp <;> omega)))) | (with_reducible refine blD ?_) | (with_reducible refine blN ?_) | ((with_reducible refine blS ?_ ?_); (focus (first | omega | (simp <;> omega)))) | ((with_reducible refine blT (by assumption) ?_ ?_); (focus (first | omega | (simp <;> omega)))))
end Go.Proofs.Ytbdcdgdbgmgcgaa
