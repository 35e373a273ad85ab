/-
  Common residues and the lattice of common points. Plain mathematics.
-/
import Derived.Test.YtdeboabifcpdbaaBase
namespace Go.Proofs.Ytdeboabifcpdbaa
open Go.RowKit
theorem find_unique {p : Nat → Bool} {n x : Nat} (hx : x < n) (hp : p x = true) (hu : ∀ y, y < n → p y = true → y = x) : (List.range n).find? p = some x := by
  cases h : (List.range n).find? p with
  | none => exact absurd hp (by simpa using List.find?_eq_none.1 h x (List.mem_range.2 hx))
  | some y =>
    have h1 := List.find?_some h
    have h2 := List.mem_range.1 (List.mem_of_find?_eq_some h)
    rw [hu y h2 h1]
/-- The inverse modulo m. -/
def invM (a m : Int) : Int := (((List.range m.toNat).find? fun v : Nat => decide ((a * (v : Int) - 1) % m = 0)).getD 0 : Nat)
theorem mul_gap {a m v w : Int} (hv : m ∣ a * v - 1) (hw : m ∣ a * w - 1) : m ∣ v - w := by
  obtain ⟨p, hp⟩ := hv
  obtain ⟨q, hq⟩ := hw
  -- v (a w - 1) - w (a v - 1) = w - v
  refine ⟨w * p - v * q, ?_⟩
  have h1 : w * (a * v - 1) = w * (m * p) := by rw [hp]
  have h2 : v * (a * w - 1) = v * (m * q) := by rw [hq]
  grind
theorem small_dvd {m v w : Int} (h : m ∣ v - w) (v0 : 0 ≤ v) (v1 : v < m) (w0 : 0 ≤ w) (w1 : w < m) : v = w := by
  have := Int.emod_emod_of_dvd v (Int.dvd_refl m)
  have e : v % m = w % m := Int.emod_eq_emod_iff_emod_sub_eq_zero.2 (Int.emod_eq_zero_of_dvd h)
  rwa [Int.emod_eq_of_lt v0 v1, Int.emod_eq_of_lt w0 w1] at e
theorem invM_eq {a m v : Int} (h0 : 0 ≤ v) (h1 : v < m) (h : m ∣ a * v - 1) : invM a m = v := by
  unfold invM
  rw [find_unique (x := v.toNat) (by omega) (decide_eq_true (Int.emod_eq_zero_of_dvd (by rw [show ((v.toNat : Nat) : Int) = v by omega]; exact h))) (fun y hy hp => ?_)]
  · simp; omega
  · have hp := of_decide_eq_true hp
    have := small_dvd (mul_gap (Int.dvd_of_emod_eq_zero hp) h) (by omega) (by omega) h0 h1
    omega
/-- The common residue. -/
def crtX (A A' L c c' : Int) : Int := (((List.range L.toNat).find? fun x : Nat => decide (((x : Int) - c) % A = 0) && decide (((x : Int) - c') % A' = 0)).getD 0 : Nat)
theorem euclid_one {a b z : Int} (hc : Int.gcd b a = 1) (h : b ∣ a * z) : b ∣ z := by
  refine Int.natAbs_dvd_natAbs.1 (Nat.Coprime.dvd_of_dvd_mul_left (k := b.natAbs) (m := a.natAbs) hc ?_)
  rw [← Int.natAbs_mul]
  exact Int.natAbs_dvd_natAbs.2 h
theorem lcm_dvd_of {A A' z : Int} (hA : 1 ≤ A) (h : A ∣ z) (h' : A' ∣ z) : A / (Int.gcd A A' : Int) * A' ∣ z := by
  have hg : (0 : Int) < (Int.gcd A A' : Int) := by
    have : 0 < Int.gcd A A' := Int.gcd_pos_of_ne_zero_left _ (by omega)
    omega
  obtain ⟨a, ha⟩ : ∃ a, A = (Int.gcd A A' : Int) * a := Int.gcd_dvd_left _ _
  obtain ⟨b, hb⟩ : ∃ b, A' = (Int.gcd A A' : Int) * b := Int.gcd_dvd_right _ _
  have hc : Int.gcd a b = 1 := by
    have h1 : (Int.gcd A A' : Int) * (Int.gcd a b : Int) = (Int.gcd A A' : Int) := by
      have := Int.gcd_mul_left (Int.gcd A A' : Int) a b
      rw [← ha, ← hb] at this
      have h2 : ((Int.gcd A A' : Nat) : Int).natAbs = Int.gcd A A' := by omega
      rw [h2] at this
      have h3 : ((Int.gcd A A' : Nat) : Int) = ((Int.gcd A A' * Int.gcd a b : Nat) : Int) := by rw [← this]
      rw [Int.natCast_mul] at h3
      exact h3.symm
    have h2 := Int.eq_of_mul_eq_mul_left (show (Int.gcd A A' : Int) ≠ 0 by omega) (h1.trans (Int.mul_one _).symm)
    omega
  generalize (Int.gcd A A' : Int) = g at *
  have hq : A / g = a := by rw [ha, Int.mul_ediv_cancel_left _ (by omega)]
  rw [hq]
  obtain ⟨z1, rfl⟩ := h
  -- A' = g b divides g a z1: b divides a z1, so b divides z1
  have h1 : g * b ∣ g * (a * z1) := by rw [← hb, ← Int.mul_assoc, ← ha]; exact h'
  have h2 : b ∣ a * z1 := Int.dvd_of_mul_dvd_mul_left (by omega) h1
  have h3 : b ∣ z1 := euclid_one (by rw [Int.gcd_comm]; exact hc) h2
  obtain ⟨z2, rfl⟩ := h3
  exact ⟨z2, by rw [ha, hb]; grind⟩
theorem crtX_eq {A A' L c c' x : Int} (hA : 1 ≤ A) (hL : L = A / (Int.gcd A A' : Int) * A') (h0 : 0 ≤ x) (h1 : x < L) (h : A ∣ x - c) (h' : A' ∣ x - c') : crtX A A' L c c' = x := by
  unfold crtX
  have hx : ((x.toNat : Nat) : Int) = x := by omega
  rw [find_unique (x := x.toNat) (by omega) (by rw [hx, decide_eq_true (Int.emod_eq_zero_of_dvd h), decide_eq_true (Int.emod_eq_zero_of_dvd h')]; rfl) (fun y hy hp => ?_)]
  · simp; omega
  · simp only [Bool.and_eq_true, decide_eq_true_eq] at hp
    have e1 := Int.dvd_sub (Int.dvd_of_emod_eq_zero hp.1) h
    have e2 := Int.dvd_sub (Int.dvd_of_emod_eq_zero hp.2) h'
    rw [show (y : Int) - c - (x - c) = y - x by omega] at e1
    rw [show (y : Int) - c' - (x - c') = y - x by omega] at e2
    have := lcm_dvd_of hA e1 e2
    rw [← hL] at this
    have := small_dvd this (by omega) (by omega) h0 h1
    omega
/-- What divides what. -/
theorem gcd_parts {A A' : Int} (hA : 1 ≤ A) : ∃ a b : Int, A = (Int.gcd A A' : Int) * a ∧ A' = (Int.gcd A A' : Int) * b ∧ Int.gcd a b = 1 ∧ 1 ≤ (Int.gcd A A' : Int) := by
  have hg : (0 : Int) < (Int.gcd A A' : Int) := by
    have : 0 < Int.gcd A A' := Int.gcd_pos_of_ne_zero_left _ (by omega)
    omega
  obtain ⟨a, ha⟩ : ∃ a, A = (Int.gcd A A' : Int) * a := Int.gcd_dvd_left _ _
  obtain ⟨b, hb⟩ : ∃ b, A' = (Int.gcd A A' : Int) * b := Int.gcd_dvd_right _ _
  refine ⟨a, b, ha, hb, ?_, by omega⟩
  have h1 : (Int.gcd A A' : Int) * (Int.gcd a b : Int) = (Int.gcd A A' : Int) := by
    have := Int.gcd_mul_left (Int.gcd A A' : Int) a b
    rw [← ha, ← hb] at this
    have h2 : ((Int.gcd A A' : Nat) : Int).natAbs = Int.gcd A A' := by omega
    rw [h2] at this
    have h3 : ((Int.gcd A A' : Nat) : Int) = ((Int.gcd A A' * Int.gcd a b : Nat) : Int) := by rw [← this]
    rw [Int.natCast_mul] at h3
    exact h3.symm
  have h2 := Int.eq_of_mul_eq_mul_left (show (Int.gcd A A' : Int) ≠ 0 by omega) (h1.trans (Int.mul_one _).symm)
  omega
theorem bezout_nat (m : Nat) : ∀ n : Nat, ∃ x y : Int, (m : Int) * x + (n : Int) * y = (Nat.gcd m n : Int) := by
  induction m using Nat.strongRecOn with
  | ind m ih =>
    intro n
    rcases Nat.eq_zero_or_pos m with rfl | hm
    · exact ⟨0, 1, by simp⟩
    · obtain ⟨x, y, h⟩ := ih (n % m) (Nat.mod_lt n hm) m
      refine ⟨y - ((n / m : Nat) : Int) * x, x, ?_⟩
      rw [Nat.gcd_rec m n, ← h]
      have e : ((n % m : Nat) : Int) = (n : Int) - (m : Int) * ((n / m : Nat) : Int) := by
        have := Nat.mod_add_div n m
        have h2 : ((n % m + m * (n / m) : Nat) : Int) = (n : Int) := by rw [this]
        rw [Int.natCast_add, Int.natCast_mul] at h2
        omega
      rw [e]
      grind
theorem inv_exists {a b : Int} (hb : 1 ≤ b) (h : Int.gcd a b = 1) : ∃ v, 0 ≤ v ∧ v < b ∧ b ∣ a * v - 1 := by
  obtain ⟨x, y, hxy⟩ := bezout_nat a.natAbs b.natAbs
  have h1 : (Nat.gcd a.natAbs b.natAbs : Int) = 1 := by
    have : Nat.gcd a.natAbs b.natAbs = 1 := h
    rw [this]; rfl
  rw [h1] at hxy
  have hbn : ((b.natAbs : Nat) : Int) = b := by omega
  rw [hbn] at hxy
  obtain ⟨s, hs⟩ : ∃ s : Int, (a.natAbs : Int) = a * s := by
    rcases Int.natAbs_eq a with e | e
    · exact ⟨1, by omega⟩
    · exact ⟨-1, by omega⟩
  refine ⟨(s * x) % b, Int.emod_nonneg _ (by omega), Int.emod_lt_of_pos _ (by omega), ?_⟩
  obtain ⟨t, ht⟩ : ∃ t, s * x % b = s * x - b * t := ⟨s * x / b, by have := Int.emod_add_mul_ediv (s * x) b; omega⟩
  rw [ht]
  refine ⟨-y - a * t, ?_⟩
  rw [hs] at hxy
  grind
/-- The formula of the reference. -/
theorem crt_formula {A A' c c' v : Int} (hA : 1 ≤ A) (hA' : 1 ≤ A') (hd : (Int.gcd A A' : Int) ∣ c' - c) (hv : A' / (Int.gcd A A' : Int) ∣ A / (Int.gcd A A' : Int) * v - 1) :
    crtX A A' (A / (Int.gcd A A' : Int) * A') c c' = (c + A * (((c' - c) / (Int.gcd A A' : Int) * v) % (A' / (Int.gcd A A' : Int)))) % (A / (Int.gcd A A' : Int) * A') ∧ 0 ≤ crtX A A' (A / (Int.gcd A A' : Int) * A') c c' ∧ crtX A A' (A / (Int.gcd A A' : Int) * A') c c' < A / (Int.gcd A A' : Int) * A' ∧ A ∣ crtX A A' (A / (Int.gcd A A' : Int) * A') c c' - c ∧ A' ∣ crtX A A' (A / (Int.gcd A A' : Int) * A') c c' - c' := by
  obtain ⟨a, b, ha, hb, _, hg⟩ := gcd_parts (A := A) (A' := A') hA
  generalize hG : (Int.gcd A A' : Int) = g at *
  have hqa : A / g = a := by rw [ha, Int.mul_ediv_cancel_left _ (by omega)]
  have hqb : A' / g = b := by rw [hb, Int.mul_ediv_cancel_left _ (by omega)]
  obtain ⟨e, he⟩ := hd
  have hqe : (c' - c) / g = e := by rw [he, Int.mul_ediv_cancel_left _ (by omega)]
  have ha0 : 1 ≤ a := by
    rcases Int.lt_or_le 0 a with h | h
    · omega
    · have := Int.mul_nonpos_of_nonneg_of_nonpos (show 0 ≤ g by omega) h; omega
  have hb0 : 1 ≤ b := by
    rcases Int.lt_or_le 0 b with h | h
    · omega
    · have := Int.mul_nonpos_of_nonneg_of_nonpos (show 0 ≤ g by omega) h; omega
  rw [hqa, hqb] at hv
  have hL : 1 ≤ a * A' := Int.mul_le_mul ha0 hA' (by omega) (by omega)
  rw [hqa, hqb, hqe]
  obtain ⟨t, ht⟩ : ∃ t, e * v % b = e * v - b * t := ⟨e * v / b, by have := Int.emod_add_mul_ediv (e * v) b; omega⟩
  obtain ⟨s, hs⟩ : ∃ s, (c + A * (e * v % b)) % (a * A') = (c + A * (e * v % b)) - a * A' * s := ⟨(c + A * (e * v % b)) / (a * A'), by have := Int.emod_add_mul_ediv (c + A * (e * v % b)) (a * A'); omega⟩
  obtain ⟨q, hq⟩ := hv
  have n0 := Int.emod_nonneg (c + A * (e * v % b)) (show a * A' ≠ 0 by omega)
  have n1 := Int.emod_lt_of_pos (c + A * (e * v % b)) (show 0 < a * A' by omega)
  have key : ∀ x : Int, x = (c + A * (e * v % b)) % (a * A') → A ∣ x - c ∧ A' ∣ x - c' → crtX A A' (a * A') c c' = (c + A * (e * v % b)) % (a * A') ∧ 0 ≤ crtX A A' (a * A') c c' ∧ crtX A A' (a * A') c c' < a * A' ∧ A ∣ crtX A A' (a * A') c c' - c ∧ A' ∣ crtX A A' (a * A') c c' - c' := by
    intro x hx ⟨k1, k2⟩
    rw [crtX_eq hA (by rw [hG, hqa]) (by rw [hx]; exact n0) (by rw [hx]; exact n1) k1 k2]
    exact ⟨hx, by rw [hx]; exact n0, by rw [hx]; exact n1, k1, k2⟩
  refine key _ rfl ⟨?_, ?_⟩
  · -- A divides x - c
    rw [hs]
    refine ⟨(e * v % b) - b * s, ?_⟩
    have : a * A' = A * b := by rw [ha, hb]; grind
    rw [this]
    grind
  · -- A' divides x - c'
    rw [hs, ht]
    refine ⟨e * q - a * t - a * s, ?_⟩
    have h1 : c' = c + g * e := by omega
    rw [h1]
    have h2 : a * v = b * q + 1 := by omega
    have h3 : A * (e * v - b * t) = g * e * (a * v) - g * b * (a * t) := by rw [ha]; grind
    rw [h3, h2, hb]
    grind
theorem crt_mem {A A' c c' : Int} (hA : 1 ≤ A) (hA' : 1 ≤ A') (hd : (Int.gcd A A' : Int) ∣ c' - c) :
    0 ≤ crtX A A' (A / (Int.gcd A A' : Int) * A') c c' ∧ crtX A A' (A / (Int.gcd A A' : Int) * A') c c' < A / (Int.gcd A A' : Int) * A' ∧ A ∣ crtX A A' (A / (Int.gcd A A' : Int) * A') c c' - c ∧ A' ∣ crtX A A' (A / (Int.gcd A A' : Int) * A') c c' - c' := by
  obtain ⟨a, b, ha, hb, hc, hg⟩ := gcd_parts (A := A) (A' := A') hA
  have hqa : A / (Int.gcd A A' : Int) = a := by
    generalize (Int.gcd A A' : Int) = g at *
    rw [ha, Int.mul_ediv_cancel_left _ (by omega)]
  have hqb : A' / (Int.gcd A A' : Int) = b := by
    generalize (Int.gcd A A' : Int) = g at *
    rw [hb, Int.mul_ediv_cancel_left _ (by omega)]
  have hb0 : 1 ≤ b := by
    rcases Int.lt_or_le 0 b with h | h
    · omega
    · have := Int.mul_nonpos_of_nonneg_of_nonpos (show (0 : Int) ≤ (Int.gcd A A' : Int) by omega) h; omega
  obtain ⟨v, _, _, hv⟩ := inv_exists hb0 hc
  exact (crt_formula (v := v) hA hA' hd (by rw [hqa, hqb]; exact hv)).2
/-- The first multiple. -/
def mK (g u : Int) : Int := g / (Int.gcd g u : Int)
theorem mK_facts {g : Int} (u : Int) (hg : 1 ≤ g) : 1 ≤ mK g u ∧ mK g u ≤ g ∧ ∀ k : Int, g ∣ k * u ↔ mK g u ∣ k := by
  obtain ⟨a, b, ha, hb, hc, hd⟩ := gcd_parts (A := g) (A' := u) hg
  have hq : mK g u = a := by
    unfold mK
    generalize (Int.gcd g u : Int) = d at *
    rw [ha, Int.mul_ediv_cancel_left _ (by omega)]
  rw [hq]
  generalize (Int.gcd g u : Int) = d at *
  have ha0 : 1 ≤ a := by
    rcases Int.lt_or_le 0 a with h | h
    · omega
    · have := Int.mul_nonpos_of_nonneg_of_nonpos (show 0 ≤ d by omega) h; omega
  have hle : a ≤ g := by
    have := Int.mul_le_mul_of_nonneg_right hd (show 0 ≤ a by omega)
    omega
  refine ⟨ha0, hle, fun k => ⟨fun h => ?_, fun ⟨t, ht⟩ => ⟨t * b, ?_⟩⟩⟩
  · have h1 : d * a ∣ d * (b * k) := by rw [← ha, show d * (b * k) = k * (d * b) by grind, ← hb]; exact h
    have h2 : a ∣ b * k := Int.dvd_of_mul_dvd_mul_left (by omega) h1
    exact euclid_one (by exact hc) h2
  · rw [ht]
    calc a * t * u = a * t * (d * b) := by rw [← hb]
      _ = g * (t * b) := by rw [ha]; grind
end Go.Proofs.Ytdeboabifcpdbaa
