/-
  The symbols of Jacobi and Kronecker, as both ways reckon them. Plain mathematics.
-/
import Derived.Test.YtladcjoiaoaedaaBase
namespace Go.Proofs.Ytladcjoiaoaedaa
open Go.RowKit
def twoI (n : Int) : Int := if n % 8 = 1 ∨ n % 8 = 7 then 1 else if n % 8 = 3 ∨ n % 8 = 5 then -1 else 0
def rcp (a n : Nat) : Int := if a % 4 = 3 ∧ n % 4 = 3 then -1 else 1
def jacF : Nat → Nat → Nat → Int
  | 0, _, n => if n = 1 then 1 else 0
  | f + 1, a, n => if a = 0 then (if n = 1 then 1 else 0) else if a % 2 = 0 then twoI n * jacF f (a / 2) n else rcp a n * jacF f (n % a) a
def jac (a n : Nat) : Int := jacF a a n
theorem jacF_fuel (f : Nat) : ∀ (g a n : Nat), a ≤ f → a ≤ g → jacF f a n = jacF g a n := by
  induction f with
  | zero =>
    intro g a n hf hg
    obtain rfl : a = 0 := by omega
    cases g with
    | zero => rfl
    | succ g => simp [jacF]
  | succ f ih =>
    intro g a n hf hg
    cases g with
    | zero =>
      obtain rfl : a = 0 := by omega
      simp [jacF]
    | succ g =>
      unfold jacF
      by_cases h0 : a = 0
      · rw [if_pos h0, if_pos h0]
      · rw [if_neg h0, if_neg h0]
        by_cases h2 : a % 2 = 0
        · rw [if_pos h2, if_pos h2, ih g (a / 2) n (by omega) (by omega)]
        · have := Nat.mod_lt n (show 0 < a by omega)
          rw [if_neg h2, if_neg h2, ih g (n % a) a (by omega) (by omega)]
theorem jac_zero (n : Nat) : jac 0 n = if n = 1 then 1 else 0 := rfl
theorem jac_even {a n : Nat} (h0 : a ≠ 0) (h : a % 2 = 0) : jac a n = twoI n * jac (a / 2) n := by
  obtain ⟨b, rfl⟩ : ∃ b, a = b + 1 := ⟨a - 1, by omega⟩
  unfold jac
  rw [jacF, if_neg h0, if_pos h, jacF_fuel b ((b + 1) / 2) _ n (by omega) (Nat.le_refl _)]
theorem jac_odd {a n : Nat} (h : a % 2 = 1) : jac a n = rcp a n * jac (n % a) a := by
  obtain ⟨b, rfl⟩ : ∃ b, a = b + 1 := ⟨a - 1, by omega⟩
  have := Nat.mod_lt n (show 0 < b + 1 by omega)
  unfold jac
  rw [jacF, if_neg (by omega), if_neg (by omega), jacF_fuel b (n % (b + 1)) _ (b + 1) (by omega) (Nat.le_refl _)]
theorem twoI_bd (n : Int) : Bd 1 (twoI n) := by
  unfold twoI
  split
  · exact ⟨by omega, by omega⟩
  · split <;> exact ⟨by omega, by omega⟩
theorem rcp_bd (a n : Nat) : Bd 1 (rcp a n) := by unfold rcp; split <;> exact ⟨by omega, by omega⟩
theorem bd_one {a b : Int} (ha : Bd 1 a) (hb : Bd 1 b) : Bd 1 (a * b) := mul_bd ha hb (by omega)
theorem jacF_bd (f : Nat) : ∀ a n, Bd 1 (jacF f a n) := by
  induction f with
  | zero => intro a n; unfold jacF; split <;> exact ⟨by omega, by omega⟩
  | succ f ih =>
    intro a n
    unfold jacF
    split
    · split <;> exact ⟨by omega, by omega⟩
    · split
      · exact bd_one (twoI_bd _) (ih _ _)
      · exact bd_one (rcp_bd _ _) (ih _ _)
/-- The Jacobi symbol of any number. -/
def jacW (a : Int) (n : Nat) : Int := jac (a % n).toNat n
theorem jacW_bd (a : Int) (n : Nat) : Bd 1 (jacW a n) := jacF_bd _ _ _
theorem jacW_nat {a n : Nat} (h : a < n) : jacW a n = jac a n := by
  unfold jacW
  rw [Int.emod_eq_of_lt (by omega) (by omega)]
  rfl
theorem jacW_mod (a : Int) (n : Nat) : jacW (a % n) n = jacW a n := by unfold jacW; rw [Int.emod_emod_of_dvd _ (Int.dvd_refl _)]
theorem jacW_one {n : Nat} (h : 1 ≤ n) : jacW 1 n = 1 := by
  by_cases h1 : n = 1
  · subst h1; rfl
  · have : jacW ((1 : Nat) : Int) n = jac 1 n := jacW_nat (by omega)
    rw [show ((1 : Nat) : Int) = 1 from rfl] at this
    rw [this, jac_odd rfl, Nat.mod_one, jac_zero, if_pos rfl]
    rfl
/-- The steps of the reference. -/
theorem jacW_half {t n : Nat} (h0 : t ≠ 0) (h : t % 2 = 0) (hl : t < n) : jacW t n = twoI n * jacW ((t / 2 : Nat) : Int) n := by
  rw [jacW_nat hl, jacW_nat (by omega), jac_even h0 h]
theorem jacW_swap {t n : Nat} (h : t % 2 = 1) (hl : t < n) : jacW t n = rcp t n * jacW n t := by
  rw [jacW_nat hl, jac_odd h]
  unfold jacW
  rfl
def kroF : Nat → Int → Nat → Int
  | 0, a, n => jacW a n
  | f + 1, a, n => if n % 2 = 0 then twoI a * kroF f a (n / 2) else jacW a n
def kro (a : Int) (n : Nat) : Int := kroF n a n
theorem kroF_fuel (f : Nat) : ∀ (g : Nat) (a : Int) (n : Nat), n ≠ 0 → n ≤ f → n ≤ g → kroF f a n = kroF g a n := by
  induction f with
  | zero => intro g a n h0 hf; omega
  | succ f ih =>
    intro g a n h0 hf hg
    obtain ⟨g, rfl⟩ : ∃ g', g = g' + 1 := ⟨g - 1, by omega⟩
    unfold kroF
    by_cases h2 : n % 2 = 0
    · rw [if_pos h2, if_pos h2, ih g a (n / 2) (by omega) (by omega) (by omega)]
    · rw [if_neg h2, if_neg h2]
theorem kro_even {a : Int} {n : Nat} (h0 : n ≠ 0) (h : n % 2 = 0) : kro a n = twoI a * kro a (n / 2) := by
  obtain ⟨b, rfl⟩ : ∃ b, n = b + 1 := ⟨n - 1, by omega⟩
  unfold kro
  rw [kroF, if_pos h, kroF_fuel b ((b + 1) / 2) a _ (by omega) (by omega) (Nat.le_refl _)]
theorem kro_odd {a : Int} {n : Nat} (h : n % 2 = 1) : kro a n = jacW a n := by
  obtain ⟨b, rfl⟩ : ∃ b, n = b + 1 := ⟨n - 1, by omega⟩
  unfold kro
  rw [kroF, if_neg (by omega)]
theorem kroF_bd (f : Nat) : ∀ (a : Int) (n : Nat), Bd 1 (kroF f a n) := by
  induction f with
  | zero => intro a n; exact jacW_bd _ _
  | succ f ih =>
    intro a n
    unfold kroF
    split
    · exact bd_one (twoI_bd _) (ih _ _)
    · exact jacW_bd _ _
theorem kro_bd (a : Int) (n : Nat) : Bd 1 (kro a n) := kroF_bd _ _ _
theorem twoI_even {a : Int} (h : a % 2 = 0) : twoI a = 0 := by unfold twoI; rw [if_neg (by omega), if_neg (by omega)]
theorem twoI_odd {a : Int} (h : a % 2 = 1) : twoI a = if a % 8 = 1 ∨ a % 8 = 7 then 1 else -1 := by
  unfold twoI
  split
  · rfl
  · rw [if_pos (by omega)]
end Go.Proofs.Ytladcjoiaoaedaa
