/-
  The reference's list of reduced forms: only what each of them is, and that the list is not empty.
-/
import Derived.Test.YtahhbjjnbdggjaaMix
import Derived.Test.YtahhbjjnbdggjaaEnd
import Derived.Test.YtahhbjjnbdggjaaRwsL
import Derived.Test.YtahhbjjnbdggjaaDisc
import Derived.Test.YtahhbjjnbdggjaaForm
namespace Go.Proofs.Ytahhbjjnbdggjaa
open Go.RowKit
attribute [local simp, local go_sem] past_cell past_frozen past_tape
theorem app_form {ops : Array Oper} {rest : List Oper} {o : Oper} {a : Act} {Q : Exit → Act → World → Prop} {w : World} {B : Nat} {v : Value} {l : List (Int × Int × Int)} (hown : Rw B 25 3 c3 w v l) (hgd : o.guard = none) (sl x : Operand) (T : TypeId)
    (ho : o.op = .call { callee := .builtin .append, args := #[sl, x], argTypes := #[T, T] }) (ht : Try.prog.underlying T = some (.slice 25)) (hv : a.eval sl = v) (h : Nat) (y : Int × Int × Int) (hx : a.eval x = .slice (some ⟨h, 0, none⟩) 1 1)
    (hh : w.heap[h]? = some (.cells #[.int .i64 y.1, .int .i64 y.2.1, .int .i64 y.2.2] 25 (0, 0))) (hl : l.length ≤ 1000000) (hB : B ≤ w.heap.size)
    (K : ∀ v' w', Rw B 25 3 c3 w' v' (l ++ [y]) → w.grownBy w' v.ownBlock → (v'.ownBlock = v.ownBlock ∨ v'.ownBlock = some w.heap.size) → wpList Try.prog ops Q rest (a.put o.dst v') w') : wpList Try.prog ops Q (o :: rest) a w :=
  app_rw w hgd sl x T ho ht (.agg #[.int .i64 0, .int .i64 0, .int .i64 0]) 24 (by kernel_rfl) rfl (by decide) (by decide) c3_len c3_one v l hv hown h y hx hh hl hB K
def redB (a b c : Int) : Bool := decide (-a < b ∧ b ≤ a ∧ (a < c ∨ (a = c ∧ 0 ≤ b)))
set_option maxHeartbeats 1000000 in
theorem reIs_any (a b c : Int) (w : World) (ha : J64 a) : Calls Try.prog 86 #[.agg #[.int .i64 a, .int .i64 b, .int .i64 c]] w fun en w' => en = .returned (.bool (redB a b c)) ∧ Below w.heap.size w w' := by
  obtain ⟨a1, a2⟩ := ha
  have hw : wrap64 (-a) = -a := by unfold wrap64; omega
  go_enter Try.func86, Try.ntmps86
  go_wp2
  all_goals
    go_ret
    refine ⟨ret_bool ?_, by repeat (first | with_reducible exact Below.refl _ _ | with_reducible assumption | ((with_reducible refine blA ?_ ?_); (focus (first | omega | (simp <;> omega)))) | (with_reducible refine blD ?_) | (with_reducible refine blN ?_) | ((with_reducible refine blS ?_ ?_); (focus (first | omega | (simp <;> omega)))) | ((with_reducible refine blT (by assumption) ?_ ?_); (focus (first | omega | (simp <;> omega)))))⟩
    unfold redB
    go_light
    (first | (symm; apply decide_eq_true; omega) | (symm; apply decide_eq_false; omega) | (rw [decide_eq_decide]; omega))
def PF (d : Int) (f : Int × Int × Int) : Prop := 1 ≤ f.1 ∧ f.1 ≤ 26 ∧ -f.1 < f.2.1 ∧ f.2.1 ≤ f.1 ∧ 1 ≤ f.2.2 ∧ f.2.2 ≤ 700 ∧ f.2.1 * f.2.1 - 4 * f.1 * f.2.2 = d
theorem sq26 {k : Nat} (h : 3 * ((k : Int) + 1) * ((k : Int) + 1) ≤ 2000) : k ≤ 24 := by
  rcases Nat.lt_or_ge 24 k with h2 | h2
  · have : (26 : Int) * 26 ≤ ((k : Int) + 1) * ((k : Int) + 1) := Int.mul_le_mul (by omega) (by omega) (by omega) (by omega)
    have e : 3 * ((k : Int) + 1) * ((k : Int) + 1) = 3 * (((k : Int) + 1) * ((k : Int) + 1)) := Int.mul_assoc _ _ _
    omega
  · exact h2
/-- What the list holds when the loops stand at a = k + 1 and, j steps in, b = j - k. -/
def LFr (d : Int) (k j : Nat) (l : List (Int × Int × Int)) : Prop := l.length ≤ 60 * k + j ∧ (∀ f ∈ l, PF d f) ∧ ((1 ≤ k ∨ 2 ≤ j ∨ (1 ≤ j ∧ d % 2 = 0)) → ∃ f ∈ l, f.1 = 1)
theorem LFr.add {d : Int} {k j : Nat} {l : List (Int × Int × Int)} {f : Int × Int × Int} (h : LFr d k j l) (hf : PF d f) (hk : f.1 = (k : Int) + 1) : LFr d k (j + 1) (l ++ [f]) := by
  refine ⟨by have := h.1; simp; omega, fun x hx => ?_, fun hc => ?_⟩
  · rcases List.mem_append.1 hx with hx | hx
    · exact h.2.1 x hx
    · have : x = f := by simpa using hx
      rw [this]; exact hf
  · rcases Nat.eq_zero_or_pos k with h0 | h0
    · exact ⟨f, by simp, by omega⟩
    · obtain ⟨x, hx, h1⟩ := h.2.2 (.inl h0)
      exact ⟨x, List.mem_append_left _ hx, h1⟩
/-- A form that is not taken: at a = 1 the identity alone is reduced. -/
theorem LFr.skip {d : Int} {k j : Nat} {l : List (Int × Int × Int)} (h : LFr d k j l) (hs : k = 0 → j = 0 → d % 2 = 0 → False) (hs2 : k = 0 → j = 1 → d % 2 ≠ 0 → False) (hj : j ≤ 2 * k + 1) : LFr d k (j + 1) l := by
  refine ⟨by have := h.1; omega, h.2.1, fun hc => h.2.2 ?_⟩
  rcases Nat.eq_zero_or_pos k with h0 | h0
  · subst h0
    rcases (show j = 0 ∨ j = 1 by omega) with rfl | rfl
    · exfalso
      rcases hc with hc | hc | ⟨_, hc⟩
      · omega
      · omega
      · exact hs rfl rfl hc
    · by_cases hd : d % 2 = 0
      · exact .inr (.inr ⟨by omega, hd⟩)
      · exact (hs2 rfl rfl hd).elim
  · exact .inl h0
theorem LFr.next {d : Int} {k : Nat} {l : List (Int × Int × Int)} {j : Nat} (h : LFr d k j l) (hj : 2 * k + 1 < j) (hj2 : j ≤ 2 * k + 2) (hk : k ≤ 24) : LFr d (k + 1) 0 l := ⟨by have := h.1; omega, h.2.1, fun _ => h.2.2 (by omega)⟩
theorem skip1 {d : Int} (d1 : -2000 ≤ d) (d2 : d ≤ -3) (d4 : d % 4 < 2) (he : d % 2 = 0) : discW 1 0 ((0 * 0 - d) / (4 * 1)) = d ∧ redB 1 0 ((0 * 0 - d) / (4 * 1)) = true := by
  refine ⟨?_, decide_eq_true ⟨by omega, by omega, by omega⟩⟩
  rw [discW_eq ⟨by omega, by omega⟩ ⟨by omega, by omega⟩ ⟨by omega, by omega⟩]
  omega
theorem skip2 {d : Int} (d1 : -2000 ≤ d) (d2 : d ≤ -3) (d4 : d % 4 < 2) (he : d % 2 ≠ 0) : discW 1 1 ((1 * 1 - d) / (4 * 1)) = d ∧ redB 1 1 ((1 * 1 - d) / (4 * 1)) = true := by
  refine ⟨?_, decide_eq_true ⟨by omega, by omega, by omega⟩⟩
  rw [discW_eq ⟨by omega, by omega⟩ ⟨by omega, by omega⟩ ⟨by omega, by omega⟩]
  omega
theorem pf_of {d b q : Int} {k : Nat} (hk : k ≤ 24) (hb0 : 0 ≤ b * b) (hq0 : 0 ≤ q) (hq1 : q ≤ 700) (d2 : d ≤ -3) (hd : b * b - 4 * ((k : Int) + 1) * q = d) (hr : redB ((k : Int) + 1) b q = true) : PF d ((k : Int) + 1, b, q) := by
  have h := of_decide_eq_true hr
  refine ⟨by simp only; omega, by simp only; omega, by simp only; omega, by simp only; omega, ?_, hq1, hd⟩
  simp only
  rcases Int.lt_or_le 0 q with h0 | h0
  · omega
  · have : q = 0 := by omega
    rw [this, Int.mul_zero] at hd
    omega
set_option maxRecDepth 100000 in
set_option maxHeartbeats 8000000 in
theorem reAll_any (d : Int) (w : World) (d1 : -2000 ≤ d) (d2 : d ≤ -3) (d4 : d % 4 < 2) :
    Calls Try.prog 80 #[.int .i64 d] w fun en w' => ∃ v l, en = .returned v ∧ Rw w.heap.size 25 3 c3 w' v l ∧ l.length ≤ 2000 ∧ (∀ f ∈ l, PF d f) ∧ (∃ f ∈ l, f.1 = 1) ∧ Below w.heap.size w w' := by
  have hnd : wrap64 (-d) = -d := by unfold wrap64; omega
  go_enter Try.func80, Try.ntmps80
  go_wp2
  go_loopw [3, 4] (fun v i wr => ∃ k : Nat, i = .int .i64 ((k : Int) + 1) ∧ k ≤ 25 ∧ (∃ l, Hid (LFr d k 0 l) ∧ Hid (Rw w.heap.size 25 3 c3 wr v l)) ∧ Hid (Below w.heap.size w wr)) (fun _ i _ => 26 - (intOf i).toNat)
  case atStart =>
    refine ⟨0, rfl, by omega, ⟨[], ⟨by simp, by simp, fun h => by omega⟩, ?_⟩, Below.refl _ _⟩
    exact Rw.nil _ _ _ _ _
  case round =>
    obtain ⟨k, rfl, hk, ⟨l, hl, hr⟩, hb⟩ := hrel
    have hbz := hb.out.size
    obtain ⟨wo, rfl⟩ : ∃ wo : World, wo = wr := ⟨_, rfl⟩
    have hw1 : wrap64 (3 * ((k : Int) + 1)) = 3 * ((k : Int) + 1) := by unfold wrap64; omega
    have hw2 : wrap64 (3 * ((k : Int) + 1) * ((k : Int) + 1)) = 3 * ((k : Int) + 1) * ((k : Int) + 1) := by
      have h1 := mul_bd (show Bd 78 (3 * ((k : Int) + 1)) from ⟨by omega, by omega⟩) (show Bd 26 ((k : Int) + 1) from ⟨by omega, by omega⟩) (show (78 : Int) * 26 ≤ 2028 by decide)
      obtain ⟨h1, h2⟩ := h1
      unfold wrap64; omega
    by_cases hlt : 3 * ((k : Int) + 1) * ((k : Int) + 1) ≤ -d
    · have hk24 : k ≤ 24 := sq26 (by omega)
      have hlt' : decide (3 * ((k : Int) + 1) * ((k : Int) + 1) ≤ -d) = true := decide_eq_true hlt
      have HLT := Lib.hid hlt
      clear hlt
      go_wp2_with fail
      rw [hw2]
      go_loopw [3, 5] (fun v i wr => ∃ j : Nat, i = .int .i64 ((j : Int) - (k : Int)) ∧ j ≤ 2 * k + 2 ∧ (∃ l, Hid (LFr d k j l) ∧ Hid (Rw w.heap.size 25 3 c3 wr v l)) ∧ Hid (Below w.heap.size w wr)) (fun _ i _ => (2 * k + 2 - (intOf i + k)).toNat)
      case atStart => exact ⟨0, by go_num, by omega, ⟨l, hl, hr⟩, hb⟩
      case round =>
        clear hl hr hb hbz
        obtain ⟨j, rfl, hj, ⟨l, hl, hr⟩, hb⟩ := hrel
        have hbz := hb.out.size
        by_cases hjl : j ≤ 2 * k + 1
        · have hbl : decide ((j : Int) - (k : Int) ≤ (k : Int) + 1) = true := decide_eq_true (by omega)
          obtain ⟨b, hbv⟩ : ∃ b : Int, (j : Int) - (k : Int) = b := ⟨_, rfl⟩
          have hb26 : Bd 26 b := ⟨by omega, by omega⟩
          have hbb := mul_bd hb26 hb26 (show (26 : Int) * 26 ≤ 676 by decide)
          obtain ⟨bb1, bb2⟩ := hbb
          have hbb0 : 0 ≤ b * b := by
            rcases Int.le_total 0 b with h | h
            · exact Int.mul_nonneg h h
            · exact Int.mul_nonneg_of_nonpos_of_nonpos h h
          have hw3 : wrap64 (b * b) = b * b := by unfold wrap64; omega
          have hw4 : wrap64 (b * b - d) = b * b - d := by unfold wrap64; omega
          have hw5 : wrap64 (4 * ((k : Int) + 1)) = 4 * ((k : Int) + 1) := by unfold wrap64; omega
          have hz : ¬ 4 * ((k : Int) + 1) = 0 := by omega
          have hq : (b * b - d).tdiv (4 * ((k : Int) + 1)) = (b * b - d) / (4 * ((k : Int) + 1)) := Int.tdiv_eq_ediv_of_nonneg (by omega)
          obtain ⟨q, hqv⟩ : ∃ q : Int, (b * b - d) / (4 * ((k : Int) + 1)) = q := ⟨_, rfl⟩
          have hq0 : 0 ≤ q := by rw [← hqv]; exact Int.ediv_nonneg (by omega) (by omega)
          have hqm := Int.ediv_mul_le (b * b - d) hz
          rw [hqv] at hqm
          have hq4 : q * 4 ≤ q * (4 * ((k : Int) + 1)) := Int.mul_le_mul_of_nonneg_left (by omega) hq0
          have hq1 : q ≤ 700 := by omega
          rw [hqv] at hq
          rw [hbv] at hbl ⊢
          have hde := discW_eq (a := (k : Int) + 1) (b := b) (c := q) ⟨by omega, by omega⟩ ⟨by omega, by omega⟩ ⟨by omega, by omega⟩
          obtain ⟨D, hD⟩ : ∃ D, discW ((k : Int) + 1) b q = D := ⟨_, rfl⟩
          obtain ⟨R, hR⟩ : ∃ R, redB ((k : Int) + 1) b q = R := ⟨_, rfl⟩
          have hcd : Hid (∀ w0, Calls Try.prog 85 #[.agg #[.int .i64 ((k : Int) + 1), .int .i64 b, .int .i64 q]] w0 fun en w' => en = .returned (.int .i64 D) ∧ Below w0.heap.size w0 w') := fun w0 => by have h := foDisc_any ((k : Int) + 1) b q w0; rwa [hD] at h
          have hcr : Hid (∀ w0, Calls Try.prog 86 #[.agg #[.int .i64 ((k : Int) + 1), .int .i64 b, .int .i64 q]] w0 fun en w' => en = .returned (.bool R) ∧ Below w0.heap.size w0 w') := fun w0 => by have h := reIs_any ((k : Int) + 1) b q w0 ⟨by omega, by omega⟩; rwa [hR] at h
          have hbj : (j : Int) + 1 - (k : Int) = b + 1 := by omega
          have hlen : l.length ≤ 1000000 := by have := hl.out.1; omega
          have HSKIP : Hid ((D = d → R = true → False) → LFr d k (j + 1) l) := Lib.hid (fun hno => hl.out.skip
            (fun h0 h1 h2 => by
              subst h0 h1
              obtain rfl : b = 0 := by simpa using hbv.symm
              obtain ⟨s1, s2⟩ := skip1 d1 d2 d4 h2
              have e : q = (0 * 0 - d) / (4 * 1) := by rw [← hqv]; simp
              exact hno (by rw [← hD, e]; simpa using s1) (by rw [← hR, e]; simpa using s2))
            (fun h0 h1 h2 => by
              subst h0 h1
              obtain rfl : b = 1 := by simpa using hbv.symm
              obtain ⟨s1, s2⟩ := skip2 d1 d2 d4 h2
              have e : q = (1 * 1 - d) / (4 * 1) := by rw [← hqv]; simp
              exact hno (by rw [← hD, e]; simpa using s1) (by rw [← hR, e]; simpa using s2)) hjl)
          have HADD : Hid (D = d → R = true → LFr d k (j + 1) (l ++ [((k : Int) + 1, b, q)])) := Lib.hid (fun h1 h2 => hl.out.add (pf_of hk24 hbb0 hq0 hq1 d2 (by rw [← hde, hD, h1]) (by rw [hR, h2])) rfl)
          clear hde hqm hq4 hbb0 bb1 bb2 hD hR
          go_wp2_with fail
          refine (hcd.out _).mono ?_
          rintro e1 w1 ⟨rfl, hB1⟩
          have hz1 := hB1.size
          try simp at hz1
          obtain ⟨hC1, hF1⟩ := bcell hB1
          have hlt1 : wr.heap.size < w1.heap.size := by omega
          have hr1 := Lib.hid ((hr.out.alloc (.cells #[.int .i64 ((k : Int) + 1), .int .i64 b, .int .i64 q] 25)).later hB1)
          have hb1 : Hid (Below w.heap.size w w1) := Lib.hid ((hb.out.alloc hbz _).trans (hB1.mono (by simp; omega)))
          have hbz1 := hb1.out.size
          clear hB1
          have hstep : ((j + 1 : Nat) : Int) - (k : Int) = b + 1 := by omega
          by_cases cD : D = d
          · have cD' : (D == d) = true := by simp [cD]
            go_wp2_with fail
            refine (hcr.out _).mono ?_
            rintro e2 w2 ⟨rfl, hB2⟩
            have hz2 := hB2.size
            obtain ⟨hC2, hF2⟩ := bcell hB2
            have hlt2 : wr.heap.size < w2.heap.size := by omega
            have hr2 := Lib.hid (hr1.out.later hB2)
            have hb2 : Hid (Below w.heap.size w w2) := Lib.hid (hb1.out.trans (hB2.mono hbz1))
            have hbz2 := hb2.out.size
            clear hB2
            cases R with
            | true =>
              go_wp2_with (at_builtin; go_loud (refine app_form (hr2.out.alloc _) (by rfl) _ _ _ (by rfl) (by kernel_rfl) (by rfl) _ ((k : Int) + 1, b, q) (by rfl) (heap_alloc_new _ _) hlen (by simp; omega) ?_))
              intro v1' w3 hr3 hg3 hat3
              have hb3 : Below w.heap.size w w3 := below_of_grown (hb2.out.alloc hbz2 _) hg3 (by simp; omega) (fun g hg => (hr2.out.lt g hg).1)
              have HR3 := Lib.hid hr3
              have HB3 := Lib.hid hb3
              clear hr3 hb3 hg3 hat3 hlen hC1 hF1 hC2 hF2
              go_wp2
              go_roundw
              case rel =>
                go_light
                refine ⟨j + 1, by rw [hstep], by omega, ⟨_, HADD.out cD (by trivial), HR3.out⟩, HB3.out⟩
              case measure => simp [intOf]; omega
            | false =>
              go_wp2
              go_roundw
              case rel =>
                go_light
                refine ⟨j + 1, by rw [hstep], by omega, ⟨_, HSKIP.out (fun _ h => by cases h), hr2.out⟩, hb2.out⟩
              case measure => simp [intOf]; omega
          · have cD' : (D == d) = false := by simp [cD]
            go_wp2
            go_roundw
            case rel =>
              go_light
              refine ⟨j + 1, by rw [hstep], by omega, ⟨_, HSKIP.out (fun h _ => cD h), hr1.out⟩, hb1.out⟩
            case measure => simp [intOf]; omega
        · have hbl : decide ((j : Int) - (k : Int) ≤ (k : Int) + 1) = false := decide_eq_false (by omega)
          have HLN := Lib.hid (hl.out.next (by omega) hj hk24)
          go_wp2
          go_roundw
          case rel =>
            go_light
            refine ⟨k + 1, by go_num, by omega, ⟨_, HLN.out, hr.out⟩, hb.out⟩
          case measure => simp [intOf]; omega
    · have hk1 : 1 ≤ k := by
        rcases Nat.eq_zero_or_pos k with h0 | h0
        · subst h0; simp at hlt; omega
        · exact h0
      have hlt' : decide (3 * ((k : Int) + 1) * ((k : Int) + 1) ≤ -d) = false := decide_eq_false hlt
      clear hlt
      go_wp2
      go_ret
      refine ⟨_, l, rfl, hr.out, by have := hl.out.1; omega, hl.out.2.1, hl.out.2.2 (.inl hk1), hb.out⟩
end Go.Proofs.Ytahhbjjnbdggjaa
