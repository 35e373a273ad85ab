/-
  The reference's list of primitive cyclic forms: that it is not empty.
-/
import Derived.Test.YtemnkfigjpphgaaCont
namespace Go.Proofs.Ytemnkfigjpphgaa
open Go.RowKit
attribute [local simp, local go_sem] past_cell past_frozen past_tape
/-- The middle coefficient of the principal cyclic form. -/
def b0 (r d : Int) : Int := if (r - d) % 2 = 0 then r else r - 1
theorem b0_facts {d : Int} (hp : posB d = true) : 1 ≤ b0 (isqrt d) d ∧ b0 (isqrt d) d ≤ isqrt d ∧ isqrt d ≤ b0 (isqrt d) d + 1 ∧ (b0 (isqrt d) d * b0 (isqrt d) d - d).tmod (4 * 1) = 0 := by
  obtain ⟨d1, d2⟩ := posB_true hp
  obtain ⟨s1, s2, s3⟩ := isqrt_spec (show 0 ≤ d by omega)
  have hd4 : d % 4 ≤ 1 := by
    simp only [posB, Bool.and_eq_true, decide_eq_true_eq] at hp
    omega
  generalize isqrt d = r at *
  have hr2 : 2 ≤ r := by
    refine Int.le_of_not_gt fun hlt => ?_
    have : (r + 1) * (r + 1) ≤ 2 * 2 := Int.mul_le_mul (by omega) (by omega) (by omega) (by omega)
    omega
  have hb : (b0 r d - d) % 2 = 0 ∧ 1 ≤ b0 r d ∧ b0 r d ≤ r ∧ r ≤ b0 r d + 1 := by unfold b0; split <;> omega
  obtain ⟨h1, h2, h3, h4⟩ := hb
  refine ⟨h2, h3, h4, ?_⟩
  generalize b0 r d = b at *
  refine Int.tmod_eq_zero_of_dvd (Int.dvd_of_emod_eq_zero ?_)
  rcases (show d % 4 = 0 ∨ d % 4 = 1 by omega) with e | e
  · obtain ⟨x, rfl⟩ : ∃ x, b = 2 * x := ⟨b / 2, by omega⟩
    have : 2 * x * (2 * x) = 4 * (x * x) := by grind
    omega
  · obtain ⟨x, rfl⟩ : ∃ x, b = 2 * x + 1 := ⟨b / 2, by omega⟩
    have : (2 * x + 1) * (2 * x + 1) = 4 * (x * x + x) + 1 := by grind
    omega
/-- A form of the list. -/
theorem ca_form {d a b : Int} (hp : posB d = true) (ha : a ≠ 0) (ha1 : -isqrt d ≤ a) (ha2 : a ≤ isqrt d) (hb1 : 1 ≤ b) (hb2 : b ≤ isqrt d) (hm : (b * b - d).tmod (4 * a) = 0) :
    Gd (isqrt d) d (a, b, (b * b - d).tdiv (4 * a)) ∧ Bd 1000 ((b * b - d).tdiv (4 * a)) := by
  obtain ⟨hr, h31⟩ := rt_of hp
  obtain ⟨d1, d2⟩ := posB_true hp
  have hbb := sq_le (a := b) (b := 31) (by omega) (by omega)
  have hb0 : 0 ≤ b * b := sq_pos
  obtain ⟨q, hq⟩ := Int.dvd_of_tmod_eq_zero hm
  have hdiv : (b * b - d).tdiv (4 * a) = q := by rw [hq]; exact Int.mul_tdiv_cancel_left _ (by omega)
  rw [hdiv]
  have hqb : Bd 1000 q := by
    have hnn : (b * b - d).natAbs = 4 * (a.natAbs * q.natAbs) := by rw [hq, Int.natAbs_mul, Int.natAbs_mul, Nat.mul_assoc]; rfl
    have : q.natAbs ≤ a.natAbs * q.natAbs := Nat.le_mul_of_pos_left _ (by omega)
    exact ⟨by omega, by omega⟩
  obtain ⟨q1, q2⟩ := hqb
  generalize isqrt d = r at *
  refine ⟨⟨by simp only; omega, by simp only; omega, by simp only; omega, ?_, hr, h31⟩, q1, q2⟩
  simp only [fdisc]
  have : 4 * a * q = b * b - d := hq.symm
  omega
/-- What the list holds when the loops stand at a = i - r and b = j + 1. -/
def CA (r d : Int) (i j : Nat) (l : List Fm) : Prop := l.length ≤ 32 * i + j ∧ (((1 : Int) < (i : Int) - r ∨ ((i : Int) - r = 1 ∧ b0 r d < (j : Int) + 1)) → 0 < l.length)
theorem CA.add {r d : Int} {i j : Nat} {l : List Fm} {f : Fm} (h : CA r d i j l) : CA r d i (j + 1) (l ++ [f]) := ⟨by have := h.1; simp; omega, fun _ => by simp⟩
theorem CA.skip {r d : Int} {i j : Nat} {l : List Fm} (h : CA r d i j l) (hn : ¬ ((i : Int) - r = 1 ∧ (j : Int) + 1 = b0 r d)) : CA r d i (j + 1) l := ⟨by have := h.1; omega, fun hc => h.2 (by omega)⟩
theorem CA.next {r d : Int} {i j : Nat} {l : List Fm} (h : CA r d i j l) (hj : r < (j : Int) + 1) (hj2 : j ≤ 31) (hb : b0 r d ≤ r) (hb1 : 1 ≤ b0 r d) : CA r d (i + 1) 0 l := ⟨by have := h.1; omega, fun hc => h.2 (by omega)⟩
set_option maxRecDepth 100000 in
set_option maxHeartbeats 8000000 in
theorem cyAll_any (d : Int) (w : World) (hp : posB d = true) :
    Calls Try.prog 121 #[.int .i64 d] w fun en w' => ∃ v l, en = .returned v ∧ Rw w.heap.size 36 3 c3 w' v l ∧ l.length ≤ 4000 ∧ 0 < l.length ∧ Below w.heap.size w w' := by
  obtain ⟨d1, d2⟩ := posB_true hp
  obtain ⟨f1, f2, f3, f4⟩ := b0_facts hp
  have HCF := Lib.hid (fun a b (h1 : a ≠ 0) h2 h3 h4 h5 h6 => ca_form (d := d) (a := a) (b := b) hp h1 h2 h3 h4 h5 h6)
  obtain ⟨rr, r31⟩ := rt_of hp
  have r0 := rr.r0
  have hrt : Hid (∀ w0, Calls Try.prog 106 #[.int .i64 d] w0 fun en w' => en = .returned (.int .i64 (isqrt d)) ∧ w0 = w') := Lib.hid fun w0 => nuRoot_any d w0 (by omega) (by omega)
  clear rr hp
  generalize isqrt d = r at *
  obtain ⟨B0, hB0⟩ : ∃ B0, b0 r d = B0 := ⟨_, rfl⟩
  rw [hB0] at f1 f2 f3 f4
  have HB0 := Lib.hid hB0
  clear hB0
  have hnr : wrap64 (-r) = -r := by unfold wrap64; omega
  go_enter Try.func121, Try.ntmps121
  go_wp2_with (go_at_call 106; refine (hrt.out _).mono ?_; rintro e w' ⟨rfl, rfl⟩)
  go_loopw [4, 5] (fun v i wr => ∃ k : Nat, i = .int .i64 ((k : Int) - r) ∧ (k : Int) ≤ 2 * r + 1 ∧ (∃ l, Hid (CA r d k 0 l) ∧ Hid (Rw w.heap.size 36 3 c3 wr v l)) ∧ Hid (Below w.heap.size w wr)) (fun _ i _ => (r + 1 - intOf i).toNat)
  case atStart =>
    refine ⟨0, by go_num, by omega, ⟨[], ⟨by simp, fun h => by omega⟩, ?_⟩, Below.refl _ _⟩
    exact Rw.nil _ _ _ _ _
  case round =>
    obtain ⟨k, rfl, hk, ⟨l, hl, hr⟩, hb⟩ := hrel
    have hbz := hb.out.size
    obtain ⟨wo, rfl⟩ : ∃ wo : World, wo = wr := ⟨_, rfl⟩
    by_cases hlt : (k : Int) - r ≤ r
    · have hlt' : decide ((k : Int) - r ≤ r) = true := decide_eq_true hlt
      have HLT := Lib.hid hlt
      clear hlt
      go_wp2_with fail
      go_loopw [4, 6] (fun v i wr => ∃ j : Nat, i = .int .i64 ((j : Int) + 1) ∧ (j : Int) ≤ r ∧ (∃ l, Hid (CA r d k j l) ∧ Hid (Rw w.heap.size 36 3 c3 wr v l)) ∧ Hid (Below w.heap.size w wr)) (fun _ i _ => (r + 1 - intOf i).toNat)
      case atStart => exact ⟨0, by go_num, by omega, ⟨l, hl, hr⟩, hb⟩
      case round =>
        clear hl hr hb hbz
        obtain ⟨j, rfl, hj, ⟨l, hl, hr⟩, hb⟩ := hrel
        have hbz := hb.out.size
        by_cases hjl : (j : Int) + 1 ≤ r
        · have hbl : decide ((j : Int) + 1 ≤ r) = true := decide_eq_true hjl
          obtain ⟨b, hbv⟩ : ∃ b : Int, (j : Int) + 1 = b := ⟨_, rfl⟩
          obtain ⟨a, hav⟩ : ∃ a : Int, (k : Int) - r = a := ⟨_, rfl⟩
          have ha1 : -r ≤ a ∧ a ≤ r := ⟨by omega, by have := HLT.out; omega⟩
          have hb31 : Bd 31 b := ⟨by omega, by omega⟩
          obtain ⟨bb1, bb2⟩ := mul_bd hb31 hb31 (show (31 : Int) * 31 ≤ 961 by decide)
          have hw3 : wrap64 (b * b) = b * b := by unfold wrap64; omega
          have hw4 : wrap64 (b * b - d) = b * b - d := by unfold wrap64; omega
          have hw5 : wrap64 (4 * a) = 4 * a := by unfold wrap64; omega
          have hstep : ((j + 1 : Nat) : Int) + 1 = b + 1 := by omega
          have HJ := Lib.hid (show (j : Int) + 1 = b ∧ (k : Int) - r = a from ⟨hbv, hav⟩)
          have HSK : Hid (¬ (a = 1 ∧ b = B0) → CA r d k (j + 1) l) := Lib.hid fun hn => hl.out.skip (by rw [HB0.out, HJ.out.1, HJ.out.2]; exact hn)
          have HAD : Hid (∀ f, CA r d k (j + 1) (l ++ [f])) := Lib.hid fun f => hl.out.add
          have hlen : l.length ≤ 1000000 := by have := hl.out.1; have := HLT.out; omega
          rw [hbv] at hbl ⊢
          try rw [hav]
          by_cases ha0 : a = 0
          · subst ha0
            have HS := Lib.hid (HSK.out (by omega))
            go_wp2_with fail
            go_roundw
            case rel =>
              go_light
              exact ⟨j + 1, by rw [hstep], by omega, ⟨_, HS.out, hr.out⟩, hb.out⟩
            case measure => simp [intOf]; omega
          · have ha0' : decide (a = 0) = false := decide_eq_false ha0
            have hz : ¬ 4 * a = 0 := by omega
            have ha0b : (a == 0) = false := by simp [ha0]
            by_cases hm : (b * b - d).tmod (4 * a) = 0
            · obtain ⟨hgd, hqb⟩ := HCF.out a b ha0 ha1.1 ha1.2 (by omega) (by omega) hm
              have hw6 : wrap64 ((b * b - d).tdiv (4 * a)) = (b * b - d).tdiv (4 * a) := by obtain ⟨x, y⟩ := hqb; unfold wrap64; omega
              obtain ⟨q, hq⟩ : ∃ q, (b * b - d).tdiv (4 * a) = q := ⟨_, rfl⟩
              rw [hq] at hgd hqb hw6
              have hcy := Lib.hid fun w0 => cyIs_any r d a b q w0 hgd
              obtain ⟨q1, q2⟩ := hqb
              have hco := Lib.hid fun w0 => foContent_any a b q w0 ⟨by omega, by omega⟩ ⟨by omega, by omega⟩ ⟨by omega, by omega⟩
              have hone : Hid (a = 1 → b = B0 → cyB r (a, b, q) = true ∧ gcd3 a b q = 1) := Lib.hid (by
                intro e1 e2
                refine ⟨?_, by rw [e1]; simp [gcd3]⟩
                unfold cyB
                rw [decide_eq_true_eq]
                simp only
                omega)
              obtain ⟨R, hR⟩ : ∃ R, cyB r (a, b, q) = R := ⟨_, rfl⟩
              obtain ⟨G, hG⟩ : ∃ G, gcd3 a b q = G := ⟨_, rfl⟩
              rw [hR, hG] at hone
              simp only [hR] at hcy
              simp only [hG] at hco
              clear hgd hR hG q1 q2
              go_wp2_with fail
              refine (hcy.out _).mono ?_
              rintro e1 x1 ⟨rfl, hB1⟩
              have hz1 := hB1.size
              try simp at hz1
              obtain ⟨hC1, hF1⟩ := bcell hB1
              have hlt1 : wr.heap.size < x1.heap.size := by omega
              have hr1 := Lib.hid ((hr.out.alloc (.cells #[.int .i64 a, .int .i64 b, .int .i64 q] 36)).later hB1)
              have hb1 : Hid (Below w.heap.size w x1) := Lib.hid ((hb.out.alloc hbz _).trans (hB1.mono (by simp; omega)))
              have hbz1 := hb1.out.size
              clear hB1
              cases R with
              | false =>
                have HS := Lib.hid (HSK.out (fun h => by have := (hone.out h.1 h.2).1; cases this))
                go_wp2_with fail
                go_roundw
                case rel =>
                  go_light
                  exact ⟨j + 1, by rw [hstep], by omega, ⟨_, HS.out, hr1.out⟩, hb1.out⟩
                case measure => simp [intOf]; omega
              | true =>
                go_wp2_with fail
                refine (hco.out _).mono ?_
                rintro e2 x2 ⟨rfl, hB2⟩
                have hz2 := hB2.size
                obtain ⟨hC2, hF2⟩ := bcell hB2
                have hlt2 : wr.heap.size < x2.heap.size := by omega
                have hr2 := Lib.hid (hr1.out.later hB2)
                have hb2 : Hid (Below w.heap.size w x2) := Lib.hid (hb1.out.trans (hB2.mono hbz1))
                have hbz2 := hb2.out.size
                clear hB2
                by_cases hg : G = 1
                · have hg' : (G == 1) = true := by simp [hg]
                  go_wp2_with (at_builtin; go_loud (refine app_formI (hr2.out.alloc _) (by rfl) _ _ _ (by rfl) (by kernel_rfl) (by rfl) _ (a, b, q) (by rfl) (heap_alloc_new _ _) hlen (by simp; omega) ?_))
                  intro v1' x3 hr3 hg3 hat3
                  have hb3 : Below w.heap.size w x3 := below_of_grown (hb2.out.alloc hbz2 _) hg3 (by simp; omega) (fun g hg => (hr2.out.lt g hg).1)
                  have HR3 := Lib.hid hr3
                  have HB3 := Lib.hid hb3
                  clear hr3 hb3 hg3 hat3 hlen hC1 hF1 hC2 hF2
                  go_wp2
                  go_roundw
                  case rel =>
                    go_light
                    exact ⟨j + 1, by rw [hstep], by omega, ⟨_, HAD.out _, HR3.out⟩, HB3.out⟩
                  case measure => simp [intOf]; omega
                · have hg' : (G == 1) = false := by simp [hg]
                  have HS := Lib.hid (HSK.out (fun h => hg (hone.out h.1 h.2).2))
                  go_wp2_with fail
                  go_roundw
                  case rel =>
                    go_light
                    exact ⟨j + 1, by rw [hstep], by omega, ⟨_, HS.out, hr2.out⟩, hb2.out⟩
                  case measure => simp [intOf]; omega
            · have HS := Lib.hid (HSK.out (fun h => hm (by rw [h.1, h.2]; exact f4)))
              have hm' : ((b * b - d).tmod (4 * a) == 0) = false := by simp [hm]
              have hm2 : decide ((b * b - d).tmod (4 * a) = 0) = false := decide_eq_false hm
              go_wp2_with fail
              go_roundw
              case rel =>
                go_light
                exact ⟨j + 1, by rw [hstep], by omega, ⟨_, HS.out, hr.out⟩, hb.out⟩
              case measure => simp [intOf]; omega
        · have hbl : decide ((j : Int) + 1 ≤ r) = false := decide_eq_false hjl
          have HLN := Lib.hid (hl.out.next (by omega) (by omega) (by rw [HB0.out]; omega) (by rw [HB0.out]; omega))
          clear hjl
          have hkk := HLT.out
          go_wp2
          go_roundw
          case rel =>
            go_light
            exact ⟨k + 1, by go_num, by omega, ⟨_, HLN.out, hr.out⟩, hb.out⟩
          case measure => simp [intOf]; omega
    · have hlt' : decide ((k : Int) - r ≤ r) = false := decide_eq_false hlt
      have hpos : 0 < l.length := hl.out.2 (by omega)
      clear hlt
      go_wp2
      go_ret
      exact ⟨_, l, rfl, hr.out, by have := hl.out.1; omega, hpos, hb.out⟩
end Go.Proofs.Ytemnkfigjpphgaa
