/-
  Automorphs of an indefinite form. Plain.
-/
import Derived.Test.YtemnkfigjpphgaaSpp
import Derived.Test.YtemnkfigjpphgaaCpr
import Derived.Test.YtemnkfigjpphgaaCont
namespace Go.Proofs.Ytemnkfigjpphgaa
open Go.RowKit
/-- The matrix of a solution. -/
def auV (f : Fm) (t u : Int) : Mt := ((t - f.2.1 * u).tdiv 2, -f.2.2 * u, f.1 * u, (t + f.2.1 * u).tdiv 2)
theorem au_par {a b c t u : Int} (h : t * t - (b * b - 4 * a * c) * (u * u) = 4) : (t - b * u) % 2 = 0 ∧ (t + b * u) % 2 = 0 := by
  have h1 : (t - b * u) * (t + b * u) = 2 * (2 - 2 * (a * c * (u * u))) := by grind
  obtain ⟨v, hv⟩ : ∃ v, b * u = v := ⟨_, rfl⟩
  rw [hv] at h1 ⊢
  rcases (show (t - v) % 2 = 0 ∨ (t - v) % 2 = 1 by omega) with h2 | h2
  · exact ⟨h2, by omega⟩
  · exfalso
    obtain ⟨m, hm⟩ : ∃ m, t - v = 2 * m + 1 := ⟨(t - v) / 2, by omega⟩
    obtain ⟨n, hn⟩ : ∃ n, t + v = 2 * n + 1 := ⟨(t + v) / 2, by omega⟩
    rw [hm, hn] at h1
    have h3 : (2 * m + 1) * (2 * n + 1) = 2 * (2 * (m * n) + m + n) + 1 := by grind
    omega
/-- Halves are exact. -/
theorem au_half {f : Fm} {d t u : Int} (hd : fdisc f = d) (h : t * t - d * (u * u) = 4) : ∃ p, t = 2 * p + f.2.1 * u ∧ auV f t u = autM f p u ∧ p * p + f.2.1 * p * u + f.1 * f.2.2 * u * u = 1 := by
  obtain ⟨a, b, c⟩ := f
  simp only [fdisc] at hd
  subst hd
  obtain ⟨h1, h2⟩ := au_par (a := a) (b := b) (c := c) h
  obtain ⟨p, hp⟩ : ∃ p, t - b * u = 2 * p := ⟨(t - b * u) / 2, by omega⟩
  have ht : t = 2 * p + b * u := by omega
  refine ⟨p, ht, ?_, ?_⟩
  · simp only [auV, autM]
    rw [hp, show t + b * u = 2 * (p + b * u) by rw [ht]; grind, Int.mul_tdiv_cancel_left _ (by omega), Int.mul_tdiv_cancel_left _ (by omega)]
  · simp only
    rw [ht] at h
    have : (2 * p + b * u) * (2 * p + b * u) - (b * b - 4 * a * c) * (u * u) = 4 * (p * p + b * p * u + a * c * u * u) := by grind
    omega
theorem au_fix {f : Fm} {d t u : Int} (hd : fdisc f = d) (h : t * t - d * (u * u) = 4) : fact f (auV f t u) = f ∧ mdet (auV f t u) = 1 := by
  obtain ⟨p, _, h1, h2⟩ := au_half hd h
  rw [h1]
  exact aut_fix h2
/-- The signed second number. -/
def sgU (k u : Int) : Int := if k < 0 then -u else u
/-- What automorph returns. -/
def AV (f : Fm) (k : Int) (m : Mt) (ok : Bool) : Prop := ∃ t u o, UP (fdisc f) (k.natAbs : Int) t u o ∧
  ((o = true ∧ mle 1000000 (auV f t (sgU k u)) ∧ m = auV f t (sgU k u) ∧ ok = true) ∨
   (o = true ∧ ¬ mle 1000000 (auV f t (sgU k u)) ∧ m = (0, 0, 0, 0) ∧ ok = false) ∨
   (o = false ∧ m = (0, 0, 0, 0) ∧ ok = false))
theorem AV.exist {f : Fm} (hp : posB (fdisc f) = true) (k : Int) : ∃ m ok, AV f k m ok := by
  obtain ⟨t, u, o, h⟩ := UP.exist hp (k.natAbs : Int)
  cases o with
  | true =>
    by_cases hm : mle 1000000 (auV f t (sgU k u))
    · exact ⟨_, true, t, u, true, h, .inl ⟨rfl, hm, rfl, rfl⟩⟩
    · exact ⟨_, false, t, u, true, h, .inr (.inl ⟨rfl, hm, rfl, rfl⟩)⟩
  | false => exact ⟨_, false, t, u, false, h, .inr (.inr ⟨rfl, rfl, rfl⟩)⟩
theorem UP.true {d k t u : Int} (hp : posB d = true) (h : UP d k t u true) : ∃ T U, Least d T U ∧ Small T U ∧ t = (pwT d T U k.toNat).1 ∧ u = (pwT d T U k.toNat).2 ∧ smallB t u = true ∧ t * t - d * (u * u) = 4 ∧ 0 ≤ u := by
  obtain ⟨T, U, okf, hf, ⟨rfl, h⟩ | ⟨_, _, _, h⟩⟩ := h
  · obtain ⟨hL, hS⟩ : Least d T U ∧ Small T U := by rcases hf with ⟨_, h1, h2⟩ | ⟨h1, _⟩; exact ⟨h1, h2⟩; cases h1
    rcases h with ⟨_, e1, e2, h3⟩ | ⟨h, _⟩
    · have hs := pw_sol (posB_true hp).1 hL.1 k.toNat
      refine ⟨T, U, hL, hS, e1, e2, by rw [e1, e2]; exact h3 _ (Nat.le_refl _), by rw [e1, e2]; exact hs.1, by rw [e2]; exact hs.2.2.1⟩
    · cases h
  · cases h
theorem sgU_sq (k u : Int) : sgU k u * sgU k u = u * u := by unfold sgU; split <;> grind
/-- What is returned is an automorph. -/
theorem AV.good {f : Fm} {k : Int} {m : Mt} (hp : posB (fdisc f) = true) (h : AV f k m true) : mle 1000000 m ∧ fact f m = f := by
  obtain ⟨t, u, o, h, h2⟩ := h
  rcases h2 with ⟨rfl, hm, rfl, _⟩ | ⟨_, _, _, h⟩ | ⟨_, _, h⟩
  · obtain ⟨_, _, _, _, _, _, _, hn, _⟩ := h.true hp
    exact ⟨hm, (au_fix rfl (by rw [sgU_sq]; exact hn)).1⟩
  · cases h
  · cases h
/-- The content of a form. -/
theorem gcd3_pri {a b c : Int} : gcd3 a b c = 1 ↔ Pri (a, b, c) := by
  unfold gcd3 Pri Int.gcd
  simp only [Int.natAbs_natCast]
  rw [Nat.gcd_assoc]
  omega
/-- The automorph that belongs to the product round the cycle: the first two exponents that fit are the only ones. -/
theorem au_cycle {f : Fm} {m : Mt} {p U : Int} (hp : posB (fdisc f) = true) (ha : f.1 ≠ 0) (hL : Least (fdisc f) (2 * p + f.2.1 * U) U) (hm : mle 1000000 m) (h : m = autM f p U ∨ m = mneg (autM f p U)) :
    AV f 1 (autM f p U) true ∧ ∀ k n, -20 ≤ k → k ≤ 0 → AV f k n true → n ≠ m ∧ mneg n ≠ m := by
  have hm1 : mle 1000000 (autM f p U) := by
    rcases h with rfl | rfl
    · exact hm
    · exact mle_neg.1 hm
  obtain ⟨hs1, hs2, hs3⟩ := hL.1
  have hsm : Small (2 * p + f.2.1 * U) U := by
    obtain ⟨q1, q2, q3, q4⟩ := hm1
    simp only [autM] at q1 q3 q4
    refine ⟨by omega, ?_⟩
    have h1 : U ≤ ((f.1 * U).natAbs : Int) := by
      rw [Int.natAbs_mul, Int.natCast_mul]
      have h2 : (U.natAbs : Int) = U := by omega
      rw [h2]
      have h3 : 1 ≤ (f.1.natAbs : Int) := by omega
      have h4 := Int.mul_le_mul_of_nonneg_right h3 (show 0 ≤ U by omega)
      omega
    omega
  have hpf : PFour (fdisc f) (2 * p + f.2.1 * U) U true := .inl ⟨rfl, hL, hsm⟩
  have hsmB := hL.smallB hsm
  have hau : auV f (2 * p + f.2.1 * U) U = autM f p U := by
    simp only [auV, autM]
    rw [show 2 * p + f.2.1 * U - f.2.1 * U = 2 * p by omega, show 2 * p + f.2.1 * U + f.2.1 * U = 2 * (p + f.2.1 * U) by grind, Int.mul_tdiv_cancel_left _ (by omega), Int.mul_tdiv_cancel_left _ (by omega)]
  refine ⟨⟨2 * p + f.2.1 * U, U, true, ⟨_, _, true, hpf, .inl ⟨rfl, .inl ⟨rfl, ?_, ?_, fun j hj => ?_⟩⟩⟩, .inl ⟨rfl, by simp only [sgU]; rw [if_neg (by omega), hau]; exact hm1, by simp only [sgU]; rw [if_neg (by omega), hau], rfl⟩⟩, fun k n k1 k2 hn => ?_⟩
  · show _ = (pwT _ _ _ 1).1
    rw [pw_one]
  · show _ = (pwT _ _ _ 1).2
    rw [pw_one]
  · have hj : j ≤ 1 := hj
    rcases (show j = 0 ∨ j = 1 by omega) with rfl | rfl
    · rw [pw_zero]; decide
    · rw [pw_one]; exact hsmB
  · obtain ⟨t, u, o, hup, hn⟩ := hn
    rcases hn with ⟨rfl, hmn, rfl, _⟩ | ⟨_, _, _, h⟩ | ⟨_, _, h⟩
    rotate_left
    · cases h
    · cases h
    obtain ⟨T', U', hL', _, e1, e2, _, hnorm, hu0⟩ := hup.true hp
    obtain ⟨rfl, rfl⟩ := hL'.unique hL
    obtain ⟨q, hq1, hq2, _⟩ := au_half (f := f) (d := fdisc f) (t := t) (u := sgU k u) rfl (by rw [sgU_sq]; exact hnorm)
    rw [hq2]
    have hd5 := (posB_true hp).1
    -- whatever fits has the same second number, up to sign
    have key : sgU k u = U' ∨ sgU k u = -U' → k = -1 := by
      intro hk
      have huU : u = U' := by unfold sgU at hk; split at hk <;> omega
      have hpw1 : (pwT (fdisc f) (2 * p + f.2.1 * U') U' 1).2 = U' := by rw [pw_one]
      rcases Nat.lt_trichotomy k.natAbs 1 with hk1 | hk1 | hk1
      · have := pw_mono hd5 hL.1 hk1
        rw [hpw1] at this
        have e3 : ((k.natAbs : Nat) : Int).toNat = k.natAbs := by omega
        rw [e3] at e2
        omega
      · omega
      · have := pw_mono hd5 hL.1 hk1
        rw [hpw1] at this
        have e3 : ((k.natAbs : Nat) : Int).toNat = k.natAbs := by omega
        rw [e3] at e2
        omega
    have cancel : ∀ x y : Int, f.1 * x = f.1 * y → x = y := fun x y h => Int.eq_of_mul_eq_mul_left ha h
    have main : autM f q (sgU k u) ≠ autM f p U' ∧ autM f q (sgU k u) ≠ mneg (autM f p U') := by
      constructor
      · intro he
        have e3 : f.1 * sgU k u = f.1 * U' := congrArg (fun M : Mt => M.2.2.1) he
        have e4 := cancel _ _ e3
        have hk := key (.inl e4)
        subst hk
        simp only [sgU] at e4
        rw [if_pos (by omega)] at e4
        omega
      · intro he
        have e3 : f.1 * sgU k u = -(f.1 * U') := congrArg (fun M : Mt => M.2.2.1) he
        have e4 : sgU k u = -U' := cancel _ _ (by rw [e3, Int.mul_neg])
        have hk := key (.inr e4)
        have e5 : q = -p := congrArg (fun M : Mt => M.1) he
        have e6 : q + f.2.1 * sgU k u = -(p + f.2.1 * U') := congrArg (fun M : Mt => M.2.2.2) he
        -- then the trace is zero
        have ht : t = 2 * q + f.2.1 * sgU k u := hq1
        rw [e4, Int.mul_neg] at ht e6
        have huU : u = U' := by unfold sgU at e4; split at e4 <;> omega
        have e7 : t = (2 * p + f.2.1 * U') := by
          rw [e1]
          have e8 : ((k.natAbs : Nat) : Int).toNat = 1 := by omega
          rw [e8, pw_one]
        omega
    have mneg_mneg' : ∀ M : Mt, mneg (mneg M) = M := fun M => mneg_mneg M
    constructor
    · intro he
      rcases h with h | h
      · exact main.1 (he.trans h)
      · exact main.2 (he.trans h)
    · intro he
      have he2 : autM f q (sgU k u) = mneg m := by rw [← he, mneg_mneg']
      rcases h with h | h
      · exact main.2 (by rw [he2, h])
      · exact main.1 (by rw [he2, h, mneg_mneg'])
end Go.Proofs.Ytemnkfigjpphgaa
