/-
  The divisors of a number: both ways make the same list. Printed by mkdiv.py.
-/
import Derived.Test.YtladcjoiaoaedaaRwsL
import Derived.Test.YtladcjoiaoaedaaNum
namespace Go.Proofs.Ytladcjoiaoaedaa
open Go.RowKit
attribute [local simp, local go_sem] past_cell past_frozen past_tape
def lowD (n : Int) : Nat → List Int
  | 0 => []
  | k + 1 => if ((k : Int) + 1) * ((k : Int) + 1) ≤ n ∧ n % ((k : Int) + 1) = 0 then lowD n k ++ [(k : Int) + 1] else lowD n k
def highD (n : Int) : Nat → List Int
  | 0 => []
  | k + 1 => if ((k : Int) + 1) * ((k : Int) + 1) < n ∧ n % ((k : Int) + 1) = 0 then highD n k ++ [n / ((k : Int) + 1)] else highD n k
def divL (n : Int) : List Int := lowD n n.toNat ++ (highD n n.toNat).reverse
theorem lowD_len (n : Int) (k : Nat) : (lowD n k).length ≤ k := by
  induction k with
  | zero => simp [lowD]
  | succ k ih => unfold lowD; split <;> (try simp) <;> omega
theorem highD_len (n : Int) (k : Nat) : (highD n k).length ≤ k := by
  induction k with
  | zero => simp [highD]
  | succ k ih => unfold highD; split <;> (try simp) <;> omega
theorem sq_le_sq {a b : Int} (ha : 0 ≤ a) (h : a ≤ b) : a * a ≤ b * b := Int.mul_le_mul h h ha (Int.le_trans ha h)
theorem lowD_stop {n : Int} {k : Nat} (h : n < ((k : Int) + 1) * ((k : Int) + 1)) (m : Nat) : lowD n (k + m) = lowD n k := by
  induction m with
  | zero => rfl
  | succ m ih =>
    have := sq_le_sq (show (0 : Int) ≤ (k : Int) + 1 by omega) (show (k : Int) + 1 ≤ ((k + m : Nat) : Int) + 1 by omega)
    rw [show k + (m + 1) = (k + m) + 1 by omega, lowD, if_neg (by omega), ih]
theorem highD_stop {n : Int} {k : Nat} (h : n < ((k : Int) + 1) * ((k : Int) + 1)) (m : Nat) : highD n (k + m) = highD n k := by
  induction m with
  | zero => rfl
  | succ m ih =>
    have := sq_le_sq (show (0 : Int) ≤ (k : Int) + 1 by omega) (show (k : Int) + 1 ≤ ((k + m : Nat) : Int) + 1 by omega)
    rw [show k + (m + 1) = (k + m) + 1 by omega, highD, if_neg (by omega), ih]
theorem self_le_sq (k : Nat) : (k : Int) ≤ (k : Int) * k := by
  rcases Nat.eq_zero_or_pos k with rfl | h
  · decide
  · have := Int.mul_le_mul_of_nonneg_left (show (1 : Int) ≤ k by omega) (show (0 : Int) ≤ k by omega)
    omega
theorem divL_eq {n : Int} {k : Nat} (h0 : (k : Int) * k ≤ n) (h : n < ((k : Int) + 1) * ((k : Int) + 1)) : divL n = lowD n k ++ (highD n k).reverse := by
  have := self_le_sq k
  unfold divL
  rw [show n.toNat = k + (n.toNat - k) by omega, lowD_stop h, highD_stop h]
theorem mem_lowD {n x : Int} {k : Nat} (h : x ∈ lowD n k) : 1 ≤ x ∧ x ≤ k ∧ x * x ≤ n ∧ n % x = 0 := by
  induction k with
  | zero => simp [lowD] at h
  | succ k ih =>
    unfold lowD at h
    split at h
    · rename_i hc
      rcases List.mem_append.1 h with h | h
      · have := ih h; exact ⟨this.1, by omega, this.2.2⟩
      · simp at h; subst h; exact ⟨by omega, by omega, hc⟩
    · have := ih h; exact ⟨this.1, by omega, this.2.2⟩
theorem mem_highD {n x : Int} {k : Nat} (hn : 1 ≤ n) (h : x ∈ highD n k) : 1 ≤ x ∧ x ≤ n ∧ n % x = 0 := by
  induction k with
  | zero => simp [highD] at h
  | succ k ih =>
    unfold highD at h
    split at h
    · rename_i hc
      rcases List.mem_append.1 h with h | h
      · exact ih h
      · simp at h
        subst h
        obtain ⟨hc1, hc2⟩ := hc
        have hk : (0 : Int) < (k : Int) + 1 := by omega
        have hd : ((k : Int) + 1) * (n / ((k : Int) + 1)) = n := Int.mul_ediv_cancel' (Int.dvd_of_emod_eq_zero hc2)
        have hp : 0 < n / ((k : Int) + 1) := by
          rcases Int.lt_or_le 0 (n / ((k : Int) + 1)) with h1 | h1
          · exact h1
          · have := Int.mul_nonpos_of_nonneg_of_nonpos (show (0 : Int) ≤ (k : Int) + 1 by omega) h1
            omega
        refine ⟨by omega, Int.ediv_le_self _ (by omega), ?_⟩
        exact Int.emod_eq_zero_of_dvd ⟨(k : Int) + 1, by rw [Int.mul_comm]; exact hd.symm⟩
    · exact ih h
theorem mem_divL {n x : Int} (hn : 1 ≤ n) (h : x ∈ divL n) : 1 ≤ x ∧ x ≤ n ∧ n % x = 0 := by
  rcases List.mem_append.1 h with h | h
  · obtain ⟨h1, h2, h3, h4⟩ := mem_lowD h
    exact ⟨h1, by omega, h4⟩
  · exact mem_highD hn (List.mem_reverse.1 h)
theorem divL_pos {n : Int} (hn : 1 ≤ n) : 0 < (divL n).length := by
  have : lowD n 1 = [1] := by
    have h1 : ((0 : Nat) : Int) + 1 = 1 := rfl
    simp only [lowD, List.nil_append, h1]
    rw [if_pos (by omega)]
  have h2 : ∀ m, 0 < (lowD n (1 + m)).length := by
    intro m
    induction m with
    | zero => rw [this]; simp
    | succ m ih => rw [show 1 + (m + 1) = (1 + m) + 1 by omega, lowD]; split <;> (try simp) <;> omega
  unfold divL
  have := h2 (n.toNat - 1)
  rw [show 1 + (n.toNat - 1) = n.toNat by omega] at this
  simp; omega
/-- Two rows do not lie in one block. -/
def Ap (v1 v2 : Value) : Prop := ∀ g, v1.ownBlock = some g → v2.ownBlock = some g → False
theorem Ap.nel {v1 v2 : Value} (h : Ap v1 v2) : v2.ownBlock = none ∨ v2.ownBlock ≠ v1.ownBlock := by
  cases h2 : v2.ownBlock with
  | none => exact .inl rfl
  | some g => exact .inr fun e => h g e.symm h2
theorem Ap.symm {v1 v2 : Value} (h : Ap v1 v2) : Ap v2 v1 := fun g h1 h2 => h g h2 h1
theorem Ap.app {v1 v2 v' : Value} {n : Nat} (h : Ap v1 v2) (hv : v'.ownBlock = v1.ownBlock ∨ v'.ownBlock = some n) (h2 : ∀ g, v2.ownBlock = some g → g < n) : Ap v' v2 := by
  intro g h3 h4
  rcases hv with hv | hv
  · exact h g (hv ▸ h3) h4
  · rw [hv] at h3
    have := h2 g h4
    simp at h3
    omega
theorem rev_drop {l : List Int} {k : Nat} {x : Int} (h : l[k]? = some x) : (l.drop k).reverse = (l.drop (k + 1)).reverse ++ [x] := by
  obtain ⟨hk, hx⟩ := List.getElem?_eq_some_iff.1 h
  rw [List.drop_eq_getElem_cons hk, List.reverse_cons, hx]
end Go.Proofs.Ytladcjoiaoaedaa
