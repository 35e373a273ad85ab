/-
  The root of a float that is a whole number below 2 to the power of 52: exact where the number is a square. Plain mathematics over the model's words.
-/
import Derived.Laws.FloatArith
import Derived.Laws.Cover2
namespace Go.Proofs.Ytemnkfigjpphgaa
open Ieee
theorem rootFrom_spec (n : Nat) : ∀ (todo root : Nat), root * root ≤ n → n < (root + 2 ^ todo) * (root + 2 ^ todo) → (Datum.rootFrom n todo root) * (Datum.rootFrom n todo root) ≤ n ∧ n < (Datum.rootFrom n todo root + 1) * (Datum.rootFrom n todo root + 1)
  | 0, root, h1, h2 => by simpa [Datum.rootFrom] using ⟨h1, h2⟩
  | todo + 1, root, h1, h2 => by
    simp only [Datum.rootFrom]
    have e : root + 1 <<< todo = root + 2 ^ todo := by rw [Nat.one_shiftLeft]
    rw [e]
    split
    · rename_i h
      refine rootFrom_spec n todo _ h ?_
      rw [show root + 2 ^ todo + 2 ^ todo = root + 2 ^ (todo + 1) by rw [Nat.pow_succ]; omega]
      exact h2
    · rename_i h
      exact rootFrom_spec n todo root h1 (by omega)
theorem sq_mono {a b : Nat} (h : a * a < b * b) : a < b := by
  refine Nat.lt_of_not_le fun hle => ?_
  have := Nat.mul_le_mul hle hle
  omega
theorem whole_spec (n : Nat) : (Datum.rootFrom n (n.log2 / 2 + 1) 0) * (Datum.rootFrom n (n.log2 / 2 + 1) 0) ≤ n ∧ n < (Datum.rootFrom n (n.log2 / 2 + 1) 0 + 1) * (Datum.rootFrom n (n.log2 / 2 + 1) 0 + 1) := by
  refine rootFrom_spec n _ 0 (by omega) ?_
  rw [Nat.zero_add, ← Nat.pow_add]
  have h1 : n < 2 ^ (n.log2 + 1) := Nat.lt_log2_self
  have h2 : 2 ^ (n.log2 + 1) ≤ 2 ^ (n.log2 / 2 + 1 + (n.log2 / 2 + 1)) := Nat.pow_le_pow_right (by omega) (by omega)
  omega
theorem log2_of {m k : Nat} (h1 : 2 ^ k ≤ m) (h2 : m < 2 ^ (k + 1)) : m.log2 = k := by
  have hm : m ≠ 0 := by have : 0 < 2 ^ k := Nat.pow_pos (by omega); omega
  refine Nat.le_antisymm ?_ ?_
  · refine Nat.le_of_lt_succ ((Nat.log2_lt hm).2 h2)
  · exact (Nat.le_log2 hm).2 h1
/-- A normal number's word, read. -/
theorem read_word (k c : Nat) (hc : 2 ^ 52 ≤ c) (hc2 : c < 2 ^ 53) (hk : k ≤ 1500) : double.read (double.word false (min (k * double.binade + c) double.infRung)) = .number false c ((k : Int) - 1074) := by
  have hb : double.binade = 4503599627370496 := by decide
  have hi : double.infRung = 9218868437227405312 := by decide
  have hs : double.signWeight = 9223372036854775808 := by decide
  have hl : double.leastPlace = -1074 := by decide
  have hmin : min (k * double.binade + c) double.infRung = k * 4503599627370496 + c := by
    rw [hb, hi, Nat.min_def, if_pos]
    omega
  rw [hmin]
  unfold Format.word Format.read
  rw [hb, hi, hs, hl]
  simp only [Bool.false_eq_true, if_false]
  have e0 : (k * 4503599627370496 + c) / 9223372036854775808 = 0 := Nat.div_eq_of_lt (by omega)
  have e1 : (k * 4503599627370496 + c) % 9223372036854775808 = k * 4503599627370496 + c := Nat.mod_eq_of_lt (by omega)
  rw [e0, e1, if_neg (by omega), if_pos (by omega)]
  have e2 : (k * 4503599627370496 + c) % 4503599627370496 = c - 4503599627370496 := by omega
  have e3 : (k * 4503599627370496 + c) / 4503599627370496 = k + 1 := by omega
  rw [e2, e3]
  have e4 : 4503599627370496 + (c - 4503599627370496) = c := by omega
  have e5 : (-1074 : Int) + ((k + 1 - 1 : Nat) : Int) = (k : Int) - 1074 := by omega
  rw [e4, e5]
  rfl
/-- A whole number, written and read. -/
theorem read_int (n : Nat) (h0 : 0 < n) (hn : n < 2 ^ 52) : double.read (floatOfInt .f64 (n : Int)) = .number false (n * 2 ^ (52 - n.log2)) ((n.log2 : Int) - 52) := by
  have hL : n.log2 ≤ 51 := Nat.le_of_lt_succ ((Nat.log2_lt (by omega)).2 hn)
  have hp : 2 ^ (52 - n.log2) * 2 ^ n.log2 = 2 ^ 52 := by rw [← Nat.pow_add]; congr 1; omega
  have hp2 : 2 ^ (52 - n.log2) * 2 ^ (n.log2 + 1) = 2 ^ 53 := by rw [← Nat.pow_add]; congr 1; omega
  have h1 : 2 ^ n.log2 ≤ n := Nat.log2_self_le (by omega)
  have h2 : n < 2 ^ (n.log2 + 1) := Nat.lt_log2_self
  have c1 : 2 ^ 52 ≤ n * 2 ^ (52 - n.log2) := by
    rw [← hp, Nat.mul_comm]
    exact Nat.mul_le_mul_right _ h1
  have c2 : n * 2 ^ (52 - n.log2) < 2 ^ 53 := by
    rw [← hp2, Nat.mul_comm]
    exact Nat.mul_lt_mul_of_pos_left h2 (Nat.pow_pos (by omega))
  have hw : floatOfInt .f64 (n : Int) = double.word false (min ((n.log2 + 1022) * double.binade + n * 2 ^ (52 - n.log2)) double.infRung) := by
    have hl : double.leastPlace = -1074 := by decide
    have hf : (double.fractionBits : Int) = 52 := by decide
    unfold floatOfInt FloatKind.nearest FloatKind.encode FloatKind.format Format.write Format.nearest
    have hneg : decide ((n : Int) < 0) = false := decide_eq_false (by omega)
    simp only [hneg, Int.natAbs_natCast]
    rw [if_neg (by omega), hl, hf]
    have hmax : max (0 + (n.log2 : Int) - 52) (-1074) = (n.log2 : Int) - 52 := by omega
    rw [hmax]
    have e1 : (0 - ((n.log2 : Int) - 52)).toNat = 52 - n.log2 := by omega
    have e2 : ((n.log2 : Int) - 52 - 0).toNat = 0 := by omega
    have e3 : ((n.log2 : Int) - 52 - -1074).toNat = n.log2 + 1022 := by omega
    rw [e1, e2, e3]
    have hcut : Toward.even.cut false (n <<< (52 - n.log2)) 0 = n * 2 ^ (52 - n.log2) := by
      rw [Nat.shiftLeft_eq]
      simp [Toward.cut, Nat.mod_one]
    rw [hcut]
  rw [hw, read_word _ _ c1 c2 (by omega)]
  have e5 : (((n.log2 + 1022 : Nat) : Int)) - 1074 = (n.log2 : Int) - 52 := by omega
  rw [e5]
theorem cut_div {way : Toward} (hw : way = .zero ∨ way = .even) (m k : Nat) (hk : k ≤ m.log2 + 2) (hm : m % 2 ^ k = 0) : way.cut false m k = m / 2 ^ k := by
  have hg : 1 <<< min k (m.log2 + 2) = 2 ^ k := by rw [Nat.one_shiftLeft, Nat.min_eq_left hk]
  have hp : 0 < 2 ^ k := Nat.pow_pos (by omega)
  rcases hw with rfl | rfl
  · simp [Toward.cut, hg]
  · simp [Toward.cut, hg, hm]
theorem cut_zero (m k : Nat) (hk : k ≤ m.log2 + 2) : Toward.zero.cut false m k = m / 2 ^ k := by
  have hg : 1 <<< min k (m.log2 + 2) = 2 ^ k := by rw [Nat.one_shiftLeft, Nat.min_eq_left hk]
  simp [Toward.cut, hg]
theorem cut_le {way : Toward} (m k : Nat) (hk : k ≤ m.log2 + 2) : m / 2 ^ k ≤ way.cut false m k ∧ way.cut false m k ≤ m / 2 ^ k + 1 := by
  have hg : 1 <<< min k (m.log2 + 2) = 2 ^ k := by rw [Nat.one_shiftLeft, Nat.min_eq_left hk]
  unfold Toward.cut
  simp only [hg]
  exact ⟨Nat.le_add_right .., Nat.add_le_add_left (Bool.toNat_le _) _⟩
/-- A number between 2^52 and 2^53 units below one, as an integer. -/
theorem toInt_small (c : Nat) (j : Nat) (hc : 2 ^ 52 ≤ c) (hc2 : c < 2 ^ 53) (hj : j ≤ 52) : (Datum.number false c (-(j : Int))).toInt .zero = some ((c / 2 ^ j : Nat) : Int) := by
  have hlog : c.log2 = 52 := log2_of hc hc2
  unfold Datum.toInt Datum.integral
  have e1 : (-(j : Int)).toNat = 0 := by omega
  have e2 : (- -(j : Int)).toNat = j := by omega
  simp only [e1, e2, Nat.shiftLeft_zero]
  rw [cut_zero _ _ (by omega)]
  simp [signed]
theorem root_val {m more W b h : Nat} {L : Int} (hlogm : m.log2 = 52) (hm0 : m ≠ 0) (hmore : 56 + (((L - 52) - (56 : Nat)) % 2).toNat = more) (hW : Datum.rootFrom (m * 2 ^ more) ((m * 2 ^ more).log2 / 2 + 1) 0 = W) (hb : (W * W != m * 2 ^ more).toNat = b) (hh : (more : Int) - (L - 52) = 2 * h) :
    (Datum.number false m (L - 52)).root 54 = some (.number false (2 * W + b) (-(h : Int) - 1)) := by
  unfold Datum.root
  simp only [hm0, if_false, hlogm, Bool.false_eq_true]
  have e1 : 2 * 54 - 52 = 56 := rfl
  rw [e1, hmore, Nat.shiftLeft_eq, hW, hb]
  have e2 : (L - 52 - (more : Int)) / 2 - 1 = -(h : Int) - 1 := by omega
  rw [e2]
theorem write_val {M h c : Nat} (hlogM : M.log2 = 55) (hM : M ≠ 0) (hh : 28 ≤ h ∧ h ≤ 54) (hc : Toward.even.cut false M 3 = c) :
    double.write (.number false M (-(h : Int) - 1)) = double.word false (min ((1076 - h) * double.binade + c) double.infRung) := by
  have hl : double.leastPlace = -1074 := by decide
  have hf : (double.fractionBits : Int) = 52 := by decide
  unfold Format.write Format.nearest
  simp only
  rw [if_neg hM, hl, hf, hlogM]
  have hmax : max (-(h : Int) - 1 + ((55 : Nat) : Int) - 52) (-1074) = 2 - (h : Int) := by omega
  rw [hmax]
  have e1 : (-(h : Int) - 1 - (2 - (h : Int))).toNat = 0 := by omega
  have e2 : (2 - (h : Int) - (-(h : Int) - 1)).toNat = 3 := by omega
  have e3 : (2 - (h : Int) - -1074).toNat = 1076 - h := by omega
  rw [e1, e2, e3, Nat.shiftLeft_zero, hc]
theorem fin_val (x z : Nat) (hz : z ≤ 134217728) (he : (double.read x).toInt .zero = some ((z : Nat) : Int)) : floatToIntVal .f64 x .i64 = some (z : Int) := by
  unfold floatToIntVal FloatKind.decode FloatKind.format
  simp only [he]
  rw [if_pos]
  have i1 : IntKind.min .i64 = -9223372036854775808 := by decide
  have i2 : IntKind.max .i64 = 9223372036854775807 := by decide
  rw [i1, i2]
  omega
theorem exact_val {n L more h W t b c : Nat} (hN : (n * 2 ^ (52 - L)) * 2 ^ more = n * (2 ^ h * 2 ^ h)) (w1 : W * W ≤ (n * 2 ^ (52 - L)) * 2 ^ more) (w2 : (n * 2 ^ (52 - L)) * 2 ^ more < (W + 1) * (W + 1)) (hb : (W * W != (n * 2 ^ (52 - L)) * 2 ^ more).toNat = b) (hh : 28 ≤ h) (hc : Toward.even.cut false (2 * W + b) 3 = c) (hlogM : (2 * W + b).log2 = 55) (ht : t * t = n) : c = t * 2 ^ (h - 2) ∧ 2 * W + b = c * 8 := by
  have e : (t * 2 ^ h) * (t * 2 ^ h) = (n * 2 ^ (52 - L)) * 2 ^ more := by rw [hN, ← ht]; grind
  have hWt : W = t * 2 ^ h := by
    rw [← e] at w1 w2
    have a1 := sq_mono (show t * 2 ^ h * (t * 2 ^ h) < (W + 1) * (W + 1) by omega)
    have a2 : W ≤ t * 2 ^ h := by
      refine Nat.le_of_not_lt fun hlt => ?_
      have := Nat.mul_le_mul (show t * 2 ^ h + 1 ≤ W by omega) (show t * 2 ^ h + 1 ≤ W by omega)
      have e3 : (t * 2 ^ h + 1) * (t * 2 ^ h + 1) = t * 2 ^ h * (t * 2 ^ h) + 2 * (t * 2 ^ h) + 1 := by grind
      omega
    omega
  have hbz : b = 0 := by
    rw [← hb, hWt]
    simp [e]
  have hpw : 2 ^ h = 2 ^ (h - 2) * 4 := by rw [show h = (h - 2) + 2 by omega, Nat.pow_add]; simp
  have hmg : 2 * W + b = (t * 2 ^ (h - 2)) * 2 ^ 3 := by rw [hWt, hbz, hpw]; grind
  have hcv : c = t * 2 ^ (h - 2) := by
    rw [← hc, cut_div (.inr rfl) _ 3 (by omega) (by rw [hmg]; exact Nat.mul_mod_left ..), hmg]
    exact Nat.mul_div_cancel _ (by decide)
  exact ⟨hcv, by rw [hcv, hmg]⟩
/-- The law. -/
theorem sqrt_law (n : Nat) (h0 : 0 < n) (hn : n < 2 ^ 52) : ∃ r z, FloatKind.f64.format.sqrt (floatOfInt .f64 (n : Int)) = some r ∧ floatToIntVal .f64 r .i64 = some z ∧ 0 ≤ z ∧ z ≤ 134217728 ∧ ∀ t : Nat, t * t = n → z = t := by
  have hL : n.log2 ≤ 51 := Nat.le_of_lt_succ ((Nat.log2_lt (by omega)).2 hn)
  have hp : 2 ^ (52 - n.log2) * 2 ^ n.log2 = 2 ^ 52 := by rw [← Nat.pow_add]; congr 1; omega
  have hp2 : 2 ^ (52 - n.log2) * 2 ^ (n.log2 + 1) = 2 ^ 53 := by rw [← Nat.pow_add]; congr 1; omega
  have g1 : 2 ^ n.log2 ≤ n := Nat.log2_self_le (by omega)
  have g2 : n < 2 ^ (n.log2 + 1) := Nat.lt_log2_self
  have m1 : 2 ^ 52 ≤ n * 2 ^ (52 - n.log2) := by
    rw [← hp, Nat.mul_comm]
    exact Nat.mul_le_mul_right _ g1
  have m2 : n * 2 ^ (52 - n.log2) < 2 ^ 53 := by
    rw [← hp2, Nat.mul_comm]
    exact Nat.mul_lt_mul_of_pos_left g2 (Nat.pow_pos (by omega))
  have hlogm : (n * 2 ^ (52 - n.log2)).log2 = 52 := log2_of m1 m2
  -- the number of digits that are added
  obtain ⟨more, hmore⟩ : ∃ more : Nat, 56 + ((((n.log2 : Int) - 52) - (56 : Nat)) % 2).toNat = more := ⟨_, rfl⟩
  have hmr : more = 56 ∨ more = 57 := by omega
  obtain ⟨h, hh⟩ : ∃ h : Nat, (more : Int) - ((n.log2 : Int) - 52) = 2 * h := ⟨(((more : Int) - ((n.log2 : Int) - 52)) / 2).toNat, by omega⟩
  have hh1 : 28 ≤ h ∧ h ≤ 54 := by omega
  -- the digits
  have hN : (n * 2 ^ (52 - n.log2)) * 2 ^ more = n * (2 ^ h * 2 ^ h) := by
    rw [Nat.mul_assoc, ← Nat.pow_add, ← Nat.pow_add]
    congr 2
    omega
  obtain ⟨W, hW⟩ : ∃ W, Datum.rootFrom ((n * 2 ^ (52 - n.log2)) * 2 ^ more) (((n * 2 ^ (52 - n.log2)) * 2 ^ more).log2 / 2 + 1) 0 = W := ⟨_, rfl⟩
  have hspec := whole_spec ((n * 2 ^ (52 - n.log2)) * 2 ^ more)
  rw [hW] at hspec
  obtain ⟨w1, w2⟩ := hspec
  have k1 : 2 ^ 54 * 2 ^ 54 ≤ (n * 2 ^ (52 - n.log2)) * 2 ^ more := by
    have : 2 ^ 56 ≤ 2 ^ more := Nat.pow_le_pow_right (by omega) (by omega)
    have := Nat.mul_le_mul m1 this
    omega
  have k2 : (n * 2 ^ (52 - n.log2)) * 2 ^ more < 2 ^ 55 * 2 ^ 55 := by
    have h3 : 2 ^ more ≤ 2 ^ 57 := Nat.pow_le_pow_right (by omega) (by omega)
    have h4 := Nat.mul_le_mul (show n * 2 ^ (52 - n.log2) ≤ 2 ^ 53 - 1 by omega) h3
    omega
  have W1 : 2 ^ 54 ≤ W := by have := sq_mono (show 2 ^ 54 * 2 ^ 54 < (W + 1) * (W + 1) by omega); omega
  have W2 : W < 2 ^ 55 := sq_mono (by omega)
  -- the square root's datum
  obtain ⟨b, hb⟩ : ∃ b : Nat, (W * W != (n * 2 ^ (52 - n.log2)) * 2 ^ more).toNat = b := ⟨_, rfl⟩
  have hb1 : b ≤ 1 := by rw [← hb]; cases (W * W != (n * 2 ^ (52 - n.log2)) * 2 ^ more) <;> simp
  have hroot := root_val hlogm (by omega) hmore hW hb (by omega)
  have hmag1 : 2 ^ 55 ≤ 2 * W + b := by omega
  have hmag2 : 2 * W + b < 2 ^ 56 := by omega
  have hlogM : (2 * W + b).log2 = 55 := log2_of hmag1 hmag2
  -- written
  obtain ⟨c, hc⟩ : ∃ c, Toward.even.cut false (2 * W + b) 3 = c := ⟨_, rfl⟩
  have hcl := cut_le (way := .even) (2 * W + b) 3 (by omega)
  rw [hc] at hcl
  have hr := write_val (h := h) hlogM (by omega) (by omega) hc
  have hsq : FloatKind.f64.format.sqrt (floatOfInt .f64 (n : Int)) = some (double.word false (min ((1076 - h) * double.binade + c) double.infRung)) := by
    show double.sqrt _ = _
    unfold Format.sqrt
    rw [read_int n h0 hn, show double.fractionBits + 2 = 54 by decide, hroot]
    simp [hr]
  have hh2 : 2 ^ 26 ≤ 2 ^ (h - 2) := Nat.pow_le_pow_right (by omega) (by omega)
  have hfin := fun z hz he => fin_val (double.word false (min ((1076 - h) * double.binade + c) double.infRung)) z hz he
  by_cases hcar : c < 2 ^ 53
  · have hrd := read_word (1076 - h) c (by omega) hcar (by omega)
    have hz : c / 2 ^ (h - 2) ≤ 134217728 := by
      refine Nat.div_le_of_le_mul ?_
      have := Nat.mul_le_mul_right 134217728 hh2
      omega
    refine ⟨_, ((c / 2 ^ (h - 2) : Nat) : Int), hsq, hfin _ hz ?_, Int.natCast_nonneg _, Int.ofNat_le.2 hz, ?_⟩
    · rw [hrd, show (((1076 - h : Nat) : Int) - 1074) = -((h - 2 : Nat) : Int) by omega]
      exact toInt_small c (h - 2) (by omega) hcar (by omega)
    · intro t ht
      obtain ⟨hcv, _⟩ := exact_val hN w1 w2 hb hh1.1 hc hlogM ht
      rw [hcv, Nat.mul_div_cancel _ (Nat.pow_pos (by omega))]
  · -- rounded up to a power of two
    have hc53 : c = 2 ^ 53 := by omega
    have hpow : (1076 - h) * double.binade + c = (1077 - h) * double.binade + 2 ^ 52 := by
      have hb : double.binade = 4503599627370496 := by decide
      rw [hb, hc53]
      omega
    have hrd := read_word (1077 - h) (2 ^ 52) (Nat.le_refl _) (by decide) (by omega)
    have hh3 : 2 ^ 25 ≤ 2 ^ (h - 3) := Nat.pow_le_pow_right (by omega) (by omega)
    have hz : 2 ^ 52 / 2 ^ (h - 3) ≤ 134217728 := by
      refine Nat.div_le_of_le_mul ?_
      have := Nat.mul_le_mul_right 134217728 hh3
      omega
    refine ⟨_, ((2 ^ 52 / 2 ^ (h - 3) : Nat) : Int), hsq, hfin _ hz ?_, Int.natCast_nonneg _, Int.ofNat_le.2 hz, ?_⟩
    · rw [hpow, hrd, show (((1077 - h : Nat) : Int) - 1074) = -((h - 3 : Nat) : Int) by omega]
      exact toInt_small (2 ^ 52) (h - 3) (Nat.le_refl _) (by decide) (by omega)
    · intro t ht
      exfalso
      obtain ⟨_, hcv⟩ := exact_val hN w1 w2 hb hh1.1 hc hlogM ht
      omega
end Go.Proofs.Ytemnkfigjpphgaa
