/-
  What the laws do with lists: comparing, marking, looking at the marks. Printed by mkrows.py.
-/
import Derived.Test.YtemnkfigjpphgaaRws
import Derived.Test.YtemnkfigjpphgaaTail
namespace Go.Proofs.Ytemnkfigjpphgaa
open Go.RowKit
attribute [local simp, local go_sem] past_cell past_frozen past_tape
def c1 (x : Int) : List Value := [.int .i64 x]
def c3 (x : Int × Int × Int) : List Value := [.int .i64 x.1, .int .i64 x.2.1, .int .i64 x.2.2]
def c4 (x : Int × Int × Int × Int) : List Value := [.int .i64 x.1, .int .i64 x.2.1, .int .i64 x.2.2.1, .int .i64 x.2.2.2]
theorem c1_len (x : Int) : (c1 x).length = 1 := rfl
theorem c3_len (x : Int × Int × Int) : (c3 x).length = 3 := rfl
theorem c4_len (x : Int × Int × Int × Int) : (c4 x).length = 4 := rfl
theorem c1_one (x : Int) : ∀ u ∈ c1 x, u.oneCell' = true := by intro u hu; simp [c1] at hu; subst hu; rfl
theorem c3_one (x : Int × Int × Int) : ∀ u ∈ c3 x, u.oneCell' = true := by intro u hu; simp [c3] at hu; rcases hu with rfl | rfl | rfl <;> rfl
theorem c4_one (x : Int × Int × Int × Int) : ∀ u ∈ c4 x, u.oneCell' = true := by intro u hu; simp [c4] at hu; rcases hu with rfl | rfl | rfl | rfl <;> rfl
theorem get_some {α : Type} {l : List α} {k n : Nat} (hn : l.length = n) (h : k < n) : ∃ x, l[k]? = some x := ⟨_, List.getElem?_eq_getElem (hn ▸ h)⟩
theorem below_of_grown {B : Nat} {a b c : World} {row : Option Nat} (h : Below B a b) (hg : b.grownBy c row) (hB : B ≤ b.heap.size) (hr : ∀ k, row = some k → B ≤ k) : Below B a c := h.grown hg hB hr
theorem grown_then {a b c : World} {row : Option Nat} (h : a.grownBy b row) (k : b.grownBy c row) : a.grownBy c row :=
  ⟨k.os.trans h.os, k.tape.trans h.tape, k.output.trans h.output, Nat.le_trans h.size k.size, fun i hi hr => (k.block i (Nat.lt_of_lt_of_le hi h.size) hr).trans (h.block i hi hr)⟩
theorem app_int {ops : Array Oper} {rest : List Oper} {o : Oper} {a : Act} {Q : Exit → Act → World → Prop} {w : World} {B : Nat} {v : Value} {l : List (Int)} (hown : Rw B 3 1 c1 w v l) (hgd : o.guard = none) (sl x : Operand) (T : TypeId)
    (ho : o.op = .call { callee := .builtin .append, args := #[sl, x], argTypes := #[T, T] }) (ht : Try.prog.underlying T = some (.slice 3)) (hv : a.eval sl = v) (h : Nat) (y : Int) (hx : a.eval x = .slice (some ⟨h, 0, none⟩) 1 1)
    (hh : w.heap[h]? = some (.cells #[.int .i64 y] 3 (0, 0))) (hl : l.length ≤ 1000000) (hB : B ≤ w.heap.size)
    (K : ∀ v' w', Rw B 3 1 c1 w' v' (l ++ [y]) → w.grownBy w' v.ownBlock → (v'.ownBlock = v.ownBlock ∨ v'.ownBlock = some w.heap.size) → wpList Try.prog ops Q rest (a.put o.dst v') w') : wpList Try.prog ops Q (o :: rest) a w :=
  app_rw w hgd sl x T ho ht (.int .i64 0) 8 (by kernel_rfl) rfl (by decide) (by decide) c1_len c1_one v l hv hown h y hx hh hl hB K
theorem app_matrix {ops : Array Oper} {rest : List Oper} {o : Oper} {a : Act} {Q : Exit → Act → World → Prop} {w : World} {B : Nat} {v : Value} {l : List (Int × Int × Int × Int)} (hown : Rw B 40 4 c4 w v l) (hgd : o.guard = none) (sl x : Operand) (T : TypeId)
    (ho : o.op = .call { callee := .builtin .append, args := #[sl, x], argTypes := #[T, T] }) (ht : Try.prog.underlying T = some (.slice 40)) (hv : a.eval sl = v) (h : Nat) (y : Int × Int × Int × Int) (hx : a.eval x = .slice (some ⟨h, 0, none⟩) 1 1)
    (hh : w.heap[h]? = some (.cells #[.int .i64 y.1, .int .i64 y.2.1, .int .i64 y.2.2.1, .int .i64 y.2.2.2] 40 (0, 0))) (hl : l.length ≤ 1000000) (hB : B ≤ w.heap.size)
    (K : ∀ v' w', Rw B 40 4 c4 w' v' (l ++ [y]) → w.grownBy w' v.ownBlock → (v'.ownBlock = v.ownBlock ∨ v'.ownBlock = some w.heap.size) → wpList Try.prog ops Q rest (a.put o.dst v') w') : wpList Try.prog ops Q (o :: rest) a w :=
  app_rw w hgd sl x T ho ht (.agg #[.int .i64 0, .int .i64 0, .int .i64 0, .int .i64 0]) 32 (by kernel_rfl) rfl (by decide) (by decide) c4_len c4_one v l hv hown h y hx hh hl hB K
end Go.Proofs.Ytemnkfigjpphgaa

/-
  The river of an indefinite form: the words of a form's automorphs. Plain mathematics.
-/
namespace Go.Proofs.Ytemnkfigjpphgaa
abbrev Fm := Int × Int × Int
abbrev Mt := Int × Int × Int × Int
/-- The product of two matrices. -/
def mm (M N : Mt) : Mt := (M.1 * N.1 + M.2.1 * N.2.2.1, M.1 * N.2.1 + M.2.1 * N.2.2.2, M.2.2.1 * N.1 + M.2.2.2 * N.2.2.1, M.2.2.1 * N.2.1 + M.2.2.2 * N.2.2.2)
def mI : Mt := (1, 0, 0, 1)
def mdet (M : Mt) : Int := M.1 * M.2.2.2 - M.2.1 * M.2.2.1
def mneg (M : Mt) : Mt := (-M.1, -M.2.1, -M.2.2.1, -M.2.2.2)
/-- A form moved by a matrix. -/
def fact (f : Fm) (M : Mt) : Fm :=
  (f.1 * M.1 * M.1 + f.2.1 * M.1 * M.2.2.1 + f.2.2 * M.2.2.1 * M.2.2.1, 2 * f.1 * M.1 * M.2.1 + f.2.1 * (M.1 * M.2.2.2 + M.2.2.1 * M.2.1) + 2 * f.2.2 * M.2.2.1 * M.2.2.2, f.1 * M.2.1 * M.2.1 + f.2.1 * M.2.1 * M.2.2.2 + f.2.2 * M.2.2.2 * M.2.2.2)
def fdisc (f : Fm) : Int := f.2.1 * f.2.1 - 4 * f.1 * f.2.2
theorem mm_assoc (M N K : Mt) : mm (mm M N) K = mm M (mm N K) := by
  refine Prod.ext ?_ (Prod.ext ?_ (Prod.ext ?_ ?_)) <;> simp only [mm] <;> grind
theorem mm_one (M : Mt) : mm M mI = M := by simp [mm, mI]
theorem one_mm (M : Mt) : mm mI M = M := by simp [mm, mI]
theorem mdet_mm (M N : Mt) : mdet (mm M N) = mdet M * mdet N := by simp only [mdet, mm]; grind
theorem fact_mm (f : Fm) (M N : Mt) : fact f (mm M N) = fact (fact f M) N := by
  refine Prod.ext ?_ (Prod.ext ?_ ?_) <;> simp only [fact, mm] <;> grind
theorem fact_one (f : Fm) : fact f mI = f := by simp [fact, mI]
theorem fact_neg (f : Fm) (M : Mt) : fact f (mneg M) = fact f M := by
  refine Prod.ext ?_ (Prod.ext ?_ ?_) <;> simp only [fact, mneg] <;> grind
theorem fdisc_fact (f : Fm) (M : Mt) : fdisc (fact f M) = mdet M * mdet M * fdisc f := by simp only [fdisc, fact, mdet]; grind
theorem mm_neg (M N : Mt) : mm M (mneg N) = mneg (mm M N) := by
  refine Prod.ext ?_ (Prod.ext ?_ (Prod.ext ?_ ?_)) <;> simp only [mm, mneg] <;> grind
theorem neg_mm (M N : Mt) : mm (mneg M) N = mneg (mm M N) := by
  refine Prod.ext ?_ (Prod.ext ?_ (Prod.ext ?_ ?_)) <;> simp only [mm, mneg] <;> grind
theorem mneg_mneg (M : Mt) : mneg (mneg M) = M := by simp [mneg]
/-- Not a square. -/
def NSq (d : Int) : Prop := ∀ x : Int, x * x ≠ d
/-- A form on the river. -/
structure Rv (f : Fm) : Prop where
  a : 0 < f.1
  c : f.2.2 < 0
  n : NSq (fdisc f)
def mR : Mt := (1, 1, 0, 1)
def mL : Mt := (1, 0, 1, 1)
/-- The next letter. -/
def rx (f : Fm) : Mt := if f.1 + f.2.1 + f.2.2 < 0 then mR else mL
/-- The next form. -/
def rv (f : Fm) : Fm := fact f (rx f)
theorem rx_det (f : Fm) : mdet (rx f) = 1 := by unfold rx; split <;> rfl
theorem rv_R {f : Fm} (h : f.1 + f.2.1 + f.2.2 < 0) : rv f = (f.1, 2 * f.1 + f.2.1, f.1 + f.2.1 + f.2.2) := by
  unfold rv rx
  rw [if_pos h]
  refine Prod.ext ?_ (Prod.ext ?_ ?_) <;> simp [fact, mR]
theorem rv_L {f : Fm} (h : ¬ f.1 + f.2.1 + f.2.2 < 0) : rv f = (f.1 + f.2.1 + f.2.2, f.2.1 + 2 * f.2.2, f.2.2) := by
  unfold rv rx
  rw [if_neg h]
  refine Prod.ext ?_ (Prod.ext ?_ ?_) <;> simp [fact, mL]
theorem Rv.sum {f : Fm} (h : Rv f) : f.1 + f.2.1 + f.2.2 ≠ 0 := by
  intro h0
  refine h.n (f.1 - f.2.2) ?_
  have : f.2.1 = -(f.1 + f.2.2) := by omega
  simp only [fdisc]
  rw [this]
  grind
theorem Rv.next {f : Fm} (h : Rv f) : Rv (rv f) := by
  have hd : fdisc (rv f) = fdisc f := by unfold rv; rw [fdisc_fact, rx_det]; omega
  have hs := h.sum
  have ha := h.a
  have hc := h.c
  by_cases hlt : f.1 + f.2.1 + f.2.2 < 0
  · have e := rv_R hlt
    refine ⟨by rw [e]; exact ha, by rw [e]; exact hlt, by rw [hd]; exact h.n⟩
  · have e := rv_L hlt
    refine ⟨by rw [e]; show 0 < f.1 + f.2.1 + f.2.2; omega, by rw [e]; exact hc, by rw [hd]; exact h.n⟩
/-- So many letters, and where they lead. -/
def rm : Nat → Fm → Mt
  | 0, _ => mI
  | n + 1, f => mm (rx f) (rm n (rv f))
def rvn : Nat → Fm → Fm
  | 0, f => f
  | n + 1, f => rvn n (rv f)
theorem rvn_add : ∀ (m n : Nat) (f : Fm), rvn (m + n) f = rvn n (rvn m f)
  | 0, n, f => by rw [Nat.zero_add]; rfl
  | m + 1, n, f => by rw [show m + 1 + n = (m + n) + 1 by omega]; exact rvn_add m n (rv f)
theorem rm_add : ∀ (m n : Nat) (f : Fm), rm (m + n) f = mm (rm m f) (rm n (rvn m f))
  | 0, n, f => by rw [Nat.zero_add]; exact (one_mm _).symm
  | m + 1, n, f => by
    rw [show m + 1 + n = (m + n) + 1 by omega]
    show mm (rx f) (rm (m + n) (rv f)) = mm (mm (rx f) (rm m (rv f))) (rm n (rvn m (rv f)))
    rw [rm_add m n (rv f), mm_assoc]
theorem Rv.nth {f : Fm} : ∀ (n : Nat) (_ : Rv f), Rv (rvn n f)
  | 0, h => h
  | n + 1, h => Rv.nth n h.next
theorem fact_rm : ∀ (n : Nat) (f : Fm), fact f (rm n f) = rvn n f
  | 0, f => fact_one f
  | n + 1, f => by
    show fact f (mm (rx f) (rm n (rv f))) = _
    rw [fact_mm]
    exact fact_rm n (rv f)
/-- Matrices without negative entries and with the determinant 1. -/
structure Nn (M : Mt) : Prop where
  p : 0 ≤ M.1
  q : 0 ≤ M.2.1
  r : 0 ≤ M.2.2.1
  s : 0 ≤ M.2.2.2
  d : mdet M = 1
theorem Nn.one : Nn mI := ⟨by decide, by decide, by decide, by decide, by decide⟩
theorem Nn.mul {M N : Mt} (h : Nn M) (k : Nn N) : Nn (mm M N) := by
  refine ⟨?_, ?_, ?_, ?_, by rw [mdet_mm, h.d, k.d]; rfl⟩
  · exact Int.add_nonneg (Int.mul_nonneg h.p k.p) (Int.mul_nonneg h.q k.r)
  · exact Int.add_nonneg (Int.mul_nonneg h.p k.q) (Int.mul_nonneg h.q k.s)
  · exact Int.add_nonneg (Int.mul_nonneg h.r k.p) (Int.mul_nonneg h.s k.r)
  · exact Int.add_nonneg (Int.mul_nonneg h.r k.q) (Int.mul_nonneg h.s k.s)
theorem Nn.diag {M : Mt} (h : Nn M) : 1 ≤ M.1 ∧ 1 ≤ M.2.2.2 := by
  have hd := h.d
  unfold mdet at hd
  have hqr := Int.mul_nonneg h.q h.r
  have hps : M.1 * M.2.2.2 ≥ 1 := by omega
  have p0 := h.p
  have s0 := h.s
  refine ⟨Int.le_of_not_gt fun hp => ?_, Int.le_of_not_gt fun hs => ?_⟩
  · have : M.1 = 0 := by omega
    rw [this, Int.zero_mul] at hps
    omega
  · have : M.2.2.2 = 0 := by omega
    rw [this, Int.mul_zero] at hps
    omega
theorem rx_nn (f : Fm) : Nn (rx f) := by
  unfold rx
  split
  · exact ⟨by decide, by decide, by decide, by decide, by decide⟩
  · exact ⟨by decide, by decide, by decide, by decide, by decide⟩
theorem rm_nn : ∀ (n : Nat) (f : Fm), Nn (rm n f)
  | 0, _ => Nn.one
  | n + 1, f => (rx_nn f).mul (rm_nn n (rv f))
/-- Longer words have greater entries. -/
theorem le_mm {M N : Mt} (h : Nn M) (k : Nn N) : M.1 ≤ (mm M N).1 ∧ M.2.1 ≤ (mm M N).2.1 ∧ M.2.2.1 ≤ (mm M N).2.2.1 ∧ M.2.2.2 ≤ (mm M N).2.2.2 := by
  obtain ⟨k1, k2⟩ := k.diag
  have a1 := Int.mul_le_mul_of_nonneg_left k1 h.p
  have a2 := Int.mul_le_mul_of_nonneg_left k2 h.q
  have a3 := Int.mul_le_mul_of_nonneg_left k1 h.r
  have a4 := Int.mul_le_mul_of_nonneg_left k2 h.s
  have b1 := Int.mul_nonneg h.q k.r
  have b2 := Int.mul_nonneg h.p k.q
  have b3 := Int.mul_nonneg h.s k.r
  have b4 := Int.mul_nonneg h.r k.q
  simp only [mm]
  refine ⟨by omega, by omega, by omega, by omega⟩
theorem rm_le {m n : Nat} (h : m ≤ n) (f : Fm) : (rm m f).1 ≤ (rm n f).1 ∧ (rm m f).2.1 ≤ (rm n f).2.1 ∧ (rm m f).2.2.1 ≤ (rm n f).2.2.1 ∧ (rm m f).2.2.2 ≤ (rm n f).2.2.2 := by
  obtain ⟨k, rfl⟩ : ∃ k, n = m + k := ⟨n - m, by omega⟩
  rw [rm_add]
  exact le_mm (rm_nn m f) (rm_nn k _)
/-- A matrix that is not the identity begins with a letter. -/
theorem nn_split {M : Mt} (h : Nn M) (h1 : M ≠ mI) : (M.2.2.1 ≤ M.1 ∧ M.2.2.2 ≤ M.2.1) ∨ (M.1 ≤ M.2.2.1 ∧ M.2.1 ≤ M.2.2.2) := by
  obtain ⟨p, q, r, s⟩ := M
  obtain ⟨hp, hq, hr, hs, hd⟩ := h
  simp only [mdet] at *
  by_cases c1 : r ≤ p
  · by_cases c2 : s ≤ q
    · exact .inl ⟨c1, c2⟩
    · -- r ≤ p, q < s
      by_cases c3 : p = r
      · exact .inr ⟨by omega, by omega⟩
      · exfalso
        -- p ≥ r + 1, s ≥ q + 1 : p s - q r ≥ (r+1)(q+1) - q r = r + q + 1
        have e1 : 0 ≤ (p - (r + 1)) * s := Int.mul_nonneg (by omega) (by omega)
        have e2 : 0 ≤ (r + 1) * (s - (q + 1)) := Int.mul_nonneg (by omega) (by omega)
        have e3 : p * s - q * r = (p - (r + 1)) * s + (r + 1) * (s - (q + 1)) + r + q + 1 := by grind
        have hr0 : r = 0 := by omega
        have hq0 : q = 0 := by omega
        subst hr0 hq0
        have hps : p * s = 1 := by omega
        have hp1 : p = 1 := by
          have := Int.mul_le_mul_of_nonneg_left (show 1 ≤ s by omega) (show 0 ≤ p by omega)
          omega
        subst hp1
        exact h1 (by simp only [mI]; rw [show s = 1 by omega])
  · refine .inr ⟨by omega, ?_⟩
    -- p < r
    refine Int.le_of_not_gt fun hqs => ?_
    have e1 : 0 ≤ (r - (p + 1)) * q := Int.mul_nonneg (by omega) (by omega)
    have e2 : 0 ≤ p * (q - s) := Int.mul_nonneg (by omega) (by omega)
    have e3 : p * s - q * r = -((r - (p + 1)) * q) - p * (q - s) - q := by grind
    omega
/-- All matrices that keep a form on the river are words of the river. -/
theorem river_word : ∀ (k : Nat) (f : Fm) (M : Mt), (M.1 + M.2.1 + M.2.2.1 + M.2.2.2).toNat ≤ k → Rv f → Nn M → 0 < (fact f M).1 → (fact f M).2.2 < 0 → ∃ n, M = rm n f := by
  intro k
  induction k with
  | zero =>
    intro f M hk _ hM _ _
    obtain ⟨d1, d2⟩ := hM.diag
    have := hM.q
    have := hM.r
    omega
  | succ k ih =>
    intro f M hk hf hM hA hC
    by_cases h1 : M = mI
    · exact ⟨0, h1⟩
    have hsp := nn_split hM h1
    obtain ⟨d1, d2⟩ := hM.diag
    have hs := hf.sum
    have fa := hf.a
    have fc := hf.c
    obtain ⟨p, q, r, s⟩ := M
    obtain ⟨A, B, C⟩ := f
    obtain ⟨hp, hq, hr, hs', hd⟩ := hM
    simp only [mdet, fact] at hk d1 d2 hs fa fc hA hC hp hq hr hs' hd hsp
    rcases hsp with ⟨c1, c2⟩ | ⟨c1, c2⟩
    · -- M = R M'
      have hlt : A + B + C < 0 := by
        refine Int.lt_of_not_ge fun hge => ?_
        have k1 : 0 ≤ A * ((q - s) * (q - s)) := Int.mul_nonneg (by omega) (by rcases Int.le_total 0 (q - s) with h | h; exact Int.mul_nonneg h h; exact Int.mul_nonneg_of_nonpos_of_nonpos h h)
        have k2 : 0 ≤ (2 * A + B) * ((q - s) * s) := Int.mul_nonneg (by omega) (Int.mul_nonneg (by omega) (by omega))
        have k3 : 0 ≤ (A + B + C) * (s * s) := Int.mul_nonneg (by omega) (Int.mul_nonneg (by omega) (by omega))
        have e : A * q * q + B * q * s + C * s * s = A * ((q - s) * (q - s)) + (2 * A + B) * ((q - s) * s) + (A + B + C) * (s * s) := by grind
        omega
      have hrx : rx (A, B, C) = mR := by unfold rx; rw [if_pos hlt]
      have hM2 : (p, q, r, s) = mm mR (p - r, q - s, r, s) := by
        refine Prod.ext ?_ (Prod.ext ?_ (Prod.ext ?_ ?_)) <;> simp [mm, mR]
      have hN : Nn (p - r, q - s, r, s) := ⟨by simp only; omega, by simp only; omega, hr, hs', by simp only [mdet]; grind⟩
      have hfm : fact (rv (A, B, C)) (p - r, q - s, r, s) = fact (A, B, C) (p, q, r, s) := by unfold rv; rw [hrx, ← fact_mm, ← hM2]
      have hr1 : 1 ≤ r + s := by omega
      obtain ⟨n, hn⟩ := ih (rv (A, B, C)) (p - r, q - s, r, s) (by simp only; omega) hf.next hN (by rw [hfm]; exact hA) (by rw [hfm]; exact hC)
      refine ⟨n + 1, ?_⟩
      show _ = mm (rx (A, B, C)) (rm n (rv (A, B, C)))
      rw [← hn, hrx]
      exact hM2
    · have hge : ¬ A + B + C < 0 := by
        intro hlt
        have k1 : 0 ≤ -C * ((r - p) * (r - p)) := Int.mul_nonneg (by omega) (by rcases Int.le_total 0 (r - p) with h | h; exact Int.mul_nonneg h h; exact Int.mul_nonneg_of_nonpos_of_nonpos h h)
        have k2 : 0 ≤ -(B + 2 * C) * ((r - p) * p) := Int.mul_nonneg (by omega) (Int.mul_nonneg (by omega) (by omega))
        have k3 : 0 ≤ -(A + B + C) * (p * p) := Int.mul_nonneg (by omega) (Int.mul_nonneg (by omega) (by omega))
        have e : A * p * p + B * p * r + C * r * r = -(-C * ((r - p) * (r - p))) - (-(B + 2 * C) * ((r - p) * p)) - (-(A + B + C) * (p * p)) := by grind
        omega
      have hrx : rx (A, B, C) = mL := by unfold rx; rw [if_neg hge]
      have hM2 : (p, q, r, s) = mm mL (p, q, r - p, s - q) := by
        refine Prod.ext ?_ (Prod.ext ?_ (Prod.ext ?_ ?_)) <;> simp [mm, mL] <;> omega
      have hN : Nn (p, q, r - p, s - q) := ⟨hp, hq, by simp only; omega, by simp only; omega, by simp only [mdet]; grind⟩
      have hfm : fact (rv (A, B, C)) (p, q, r - p, s - q) = fact (A, B, C) (p, q, r, s) := by unfold rv; rw [hrx, ← fact_mm, ← hM2]
      obtain ⟨n, hn⟩ := ih (rv (A, B, C)) (p, q, r - p, s - q) (by simp only; omega) hf.next hN (by rw [hfm]; exact hA) (by rw [hfm]; exact hC)
      refine ⟨n + 1, ?_⟩
      show _ = mm (rx (A, B, C)) (rm n (rv (A, B, C)))
      rw [← hn, hrx]
      exact hM2
/-- A solution and its matrix: t = 2 p + B u. -/
def autM (f : Fm) (p u : Int) : Mt := (p, -f.2.2 * u, f.1 * u, p + f.2.1 * u)
theorem aut_fix {f : Fm} {p u : Int} (h : p * p + f.2.1 * p * u + f.1 * f.2.2 * u * u = 1) : fact f (autM f p u) = f ∧ mdet (autM f p u) = 1 := by
  obtain ⟨A, B, C⟩ := f
  simp only [autM, fact, mdet] at *
  refine ⟨Prod.ext ?_ (Prod.ext ?_ ?_), ?_⟩
  · show A * p * p + B * p * (A * u) + C * (A * u) * (A * u) = A
    have : A * p * p + B * p * (A * u) + C * (A * u) * (A * u) = A * (p * p + B * p * u + A * C * u * u) := by grind
    rw [this, h, Int.mul_one]
  · show 2 * A * p * (-C * u) + B * (p * (p + B * u) + A * u * (-C * u)) + 2 * C * (A * u) * (p + B * u) = B
    have : 2 * A * p * (-C * u) + B * (p * (p + B * u) + A * u * (-C * u)) + 2 * C * (A * u) * (p + B * u) = B * (p * p + B * p * u + A * C * u * u) := by grind
    rw [this, h, Int.mul_one]
  · show A * (-C * u) * (-C * u) + B * (-C * u) * (p + B * u) + C * (p + B * u) * (p + B * u) = C
    have : A * (-C * u) * (-C * u) + B * (-C * u) * (p + B * u) + C * (p + B * u) * (p + B * u) = C * (p * p + B * p * u + A * C * u * u) := by grind
    rw [this, h, Int.mul_one]
  · show p * (p + B * u) - -C * u * (A * u) = 1
    rw [← h]; grind
theorem sq_pos {x : Int} : 0 ≤ x * x := by
  rcases Int.le_total 0 x with h | h
  · exact Int.mul_nonneg h h
  · exact Int.mul_nonneg_of_nonpos_of_nonpos h h
theorem lt_of_sq {a b : Int} (hb : 0 ≤ b) (h : a * a < b * b) : a < b := by
  refine Int.lt_of_not_ge fun hge => ?_
  have := Int.mul_le_mul hge hge hb (by omega)
  omega
/-- A positive solution gives a word of the river that leads back. -/
theorem aut_word {f : Fm} (hf : Rv f) {t u : Int} (ht : 0 < t) (hu : 0 < u) (h : t * t - fdisc f * (u * u) = 4) : ∃ p n, t = 2 * p + f.2.1 * u ∧ autM f p u = rm n f ∧ rvn n f = f ∧ 1 ≤ n := by
  have fa := hf.a
  have fc := hf.c
  have hpar : (t - f.2.1 * u) % 2 = 0 := by
    have h1 : (t - f.2.1 * u) * (t + f.2.1 * u) = 4 * (1 - f.1 * f.2.2 * (u * u)) := by
      simp only [fdisc] at h
      grind
    rcases (show (t - f.2.1 * u) % 2 = 0 ∨ (t - f.2.1 * u) % 2 = 1 by omega) with e | e
    · exact e
    · exfalso
      obtain ⟨x, hx⟩ : ∃ x, t - f.2.1 * u = 2 * x + 1 := ⟨(t - f.2.1 * u) / 2, by omega⟩
      obtain ⟨y, hy⟩ : ∃ y, t + f.2.1 * u = 2 * y + 1 := ⟨(t + f.2.1 * u) / 2, by omega⟩
      rw [hx, hy] at h1
      have : (2 * x + 1) * (2 * y + 1) = 2 * (2 * (x * y) + x + y) + 1 := by grind
      omega
  obtain ⟨p, hp⟩ : ∃ p, t - f.2.1 * u = 2 * p := ⟨(t - f.2.1 * u) / 2, by omega⟩
  have e1 : p * p + f.2.1 * p * u + f.1 * f.2.2 * u * u = 1 := by
    have : 4 * (p * p + f.2.1 * p * u + f.1 * f.2.2 * u * u) = 4 := by
      simp only [fdisc] at h
      have ht2 : t = 2 * p + f.2.1 * u := by omega
      rw [ht2] at h
      grind
    omega
  obtain ⟨a1, a2⟩ := aut_fix e1
  -- no negative entries
  have hpm : (f.2.1 * u) * (f.2.1 * u) < t * t := by
    have : t * t = (f.2.1 * u) * (f.2.1 * u) + 4 * (f.1 * -f.2.2 * (u * u)) + 4 := by
      simp only [fdisc] at h
      grind
    have h0 : 0 ≤ f.1 * -f.2.2 * (u * u) := Int.mul_nonneg (Int.mul_nonneg (by omega) (by omega)) sq_pos
    omega
  have b1 := lt_of_sq (b := t) (by omega) hpm
  have b2 := lt_of_sq (a := -(f.2.1 * u)) (b := t) (by omega) (by rw [Int.neg_mul_neg]; exact hpm)
  have hN : Nn (autM f p u) := ⟨show 0 ≤ p by omega, Int.mul_nonneg (by omega) (by omega), Int.mul_nonneg (by omega) (by omega), show 0 ≤ p + f.2.1 * u by omega, a2⟩
  obtain ⟨n, hn⟩ := river_word _ f _ (Nat.le_refl _) hf hN (by rw [a1]; exact fa) (by rw [a1]; exact fc)
  refine ⟨p, n, by omega, hn, by rw [← fact_rm, ← hn]; exact a1, ?_⟩
  refine Nat.one_le_iff_ne_zero.2 fun h0 => ?_
  subst h0
  have : f.1 * u = 0 := congrArg (fun M : Mt => M.2.2.1) hn
  have := Int.mul_pos fa hu
  omega
/-- A word that leads back, of a primitive form, is that of a solution. -/
theorem word_aut {f : Fm} {M : Mt} (h : fact f M = f) (hd : mdet M = 1) : f.1 * (M.2.2.2 - M.1) = f.2.1 * M.2.2.1 ∧ f.1 * M.2.1 = -(f.2.2 * M.2.2.1) := by
  obtain ⟨A, B, C⟩ := f
  obtain ⟨p, q, r, s⟩ := M
  simp only [fact, mdet] at *
  have h1 : A * p * p + B * p * r + C * r * r = A := congrArg (fun g : Fm => g.1) h
  have h2 : 2 * A * p * q + B * (p * s + r * q) + 2 * C * r * s = B := congrArg (fun g : Fm => g.2.1) h
  constructor
  · grind
  · grind
/-- The solution of a word that leads back. -/
theorem word_sol {f : Fm} {M : Mt} (h : fact f M = f) (hd : mdet M = 1) {u : Int} (ha : f.1 ≠ 0) (hu : M.2.2.1 = f.1 * u) : M = autM f M.1 u ∧ (M.1 + M.2.2.2) * (M.1 + M.2.2.2) - fdisc f * (u * u) = 4 := by
  obtain ⟨e1, e2⟩ := word_aut h hd
  obtain ⟨A, B, C⟩ := f
  obtain ⟨p, q, r, s⟩ := M
  simp only at *
  subst hu
  have k1 : s - p = B * u := Int.eq_of_mul_eq_mul_left ha (by rw [e1]; grind)
  have k2 : q = -C * u := Int.eq_of_mul_eq_mul_left ha (by rw [e2]; grind)
  have k3 : s = p + B * u := by omega
  subst k3
  subst k2
  refine ⟨rfl, ?_⟩
  simp only [mdet, fdisc] at hd ⊢
  grind
end Go.Proofs.Ytemnkfigjpphgaa
