/-
  Lattices and their normal forms generate each other; the ideal of an element. Plain mathematics.
-/
import Derived.Test.YtladcjoiaoaedaaSumF
import Derived.Test.YtladcjoiaoaedaaIdealH
namespace Go.Proofs.Ytladcjoiaoaedaa
theorem Lat.mul {P : Int → Int → Prop} (hP : Lat P) (h0 : P 0 0) {x y : Int} (h : P x y) (k : Int) : P (k * x) (k * y) := by
  have := hP 0 0 x y (-k) h0 h
  rwa [show (0 : Int) - -k * x = k * x by grind, show (0 : Int) - -k * y = k * y by grind] at this
theorem Lat.add {P : Int → Int → Prop} (hP : Lat P) {x y u v : Int} (h : P x y) (h2 : P u v) (k : Int) : P (x + k * u) (y + k * v) := by
  have := hP x y u v (-k) h h2
  rwa [show x - -k * u = x + k * u by grind, show y - -k * v = y + k * v by grind] at this
theorem lat_unred {P : Int → Int → Prop} (hP : Lat P) {a x y : Int} (ha : P a 0) (h : P (red a x) y) : P x y := by
  obtain ⟨k, hk⟩ := red_dvd a x
  have := hP.add h ha k
  rwa [show red a x + k * a = x by grind, Int.mul_zero, Int.add_zero] at this
theorem lat_euc_back {P : Int → Int → Prop} (hP : Lat P) {a : Int} (ha : P a 0) : ∀ (f : Nat) (b d x y : Int), y.natAbs ≤ f → P (eucI a f b d x y).1 (eucI a f b d x y).2.1 → P (eucI a f b d x y).2.2 0 → P b d ∧ P x y := by
  intro f
  induction f with
  | zero =>
    intro b d x y h1 h2 h3
    obtain rfl : y = 0 := by omega
    exact ⟨h2, h3⟩
  | succ f ih =>
    intro b d x y h1 h2 h3
    simp only [eucI] at h2 h3
    split at h2
    · rename_i h0
      subst h0
      rw [if_pos rfl] at h3
      exact ⟨h2, h3⟩
    · rename_i h0
      rw [if_neg h0] at h3
      have hlt := rem_lt d h0
      obtain ⟨e1, e2⟩ := ih _ _ _ _ (by omega) h2 h3
      have e3 := hP.add (lat_unred hP ha e2) e1 (d.tdiv y)
      rw [show b - d.tdiv y * x + d.tdiv y * x = b by omega, show d - d.tdiv y * y + d.tdiv y * y = d by omega] at e3
      exact ⟨e3, e1⟩
theorem lat_dvd {P : Int → Int → Prop} (hP : Lat P) (h0 : P 0 0) {g a : Int} (hg : P g 0) (h : g ∣ a) : P a 0 := by
  obtain ⟨k, rfl⟩ := h
  have := hP.mul h0 hg k
  rwa [Int.mul_comm k g, Int.mul_zero] at this
theorem lat_step_back {P : Int → Int → Prop} (hP : Lat P) (h0 : P 0 0) {s : Int × Int × Int} {v : Int × Int} (ha : P (hStep s v).1 0) (hb : P (hStep s v).2.1 (hStep s v).2.2) : P s.1 0 ∧ P s.2.1 s.2.2 ∧ P v.1 v.2 := by
  have h1 : P s.1 0 := lat_dvd hP h0 ha (Int.gcd_dvd_left ..)
  have h2 : P (eucI s.1 v.2.natAbs s.2.1 s.2.2 v.1 v.2).2.2 0 := lat_dvd hP h0 ha (Int.gcd_dvd_right ..)
  have h3 : P (eucI s.1 v.2.natAbs s.2.1 s.2.2 v.1 v.2).1 (eucI s.1 v.2.natAbs s.2.1 s.2.2 v.1 v.2).2.1 := lat_unred hP ha hb
  obtain ⟨e1, e2⟩ := lat_euc_back hP h1 _ _ _ _ _ (Nat.le_refl _) h3 h2
  exact ⟨h1, e1, e2⟩
theorem fold_back {P : Int → Int → Prop} (hP : Lat P) (h0 : P 0 0) (l : List (Int × Int)) : ∀ s : Int × Int × Int, P (l.foldl hStep s).1 0 → P (l.foldl hStep s).2.1 (l.foldl hStep s).2.2 → (P s.1 0 ∧ P s.2.1 s.2.2) ∧ ∀ g ∈ l, P g.1 g.2 := by
  induction l with
  | nil => intro s h1 h2; exact ⟨⟨h1, h2⟩, fun g hg => by simp at hg⟩
  | cons v l ih =>
    intro s h1 h2
    obtain ⟨⟨a1, a2⟩, a3⟩ := ih (hStep s v) h1 h2
    obtain ⟨b1, b2, b3⟩ := lat_step_back hP h0 a1 a2
    refine ⟨⟨b1, b2⟩, fun g hg => ?_⟩
    rcases List.mem_cons.1 hg with rfl | hg
    · exact b3
    · exact a3 g hg
/-- The basis of the ideal of a normal form generates what the normal form does. -/
theorem nice_span {P : Int → Int → Prop} (hP : Lat P) (h0 : P 0 0) {a b d : Int} (hn : Nice a b d) : (P (2 * (d.natAbs : Int) * oA a d) 0 ∧ P (-(d.natAbs : Int) * oB a b d) (d.natAbs : Int)) ↔ (P a 0 ∧ P b d) := by
  have hd0 := hn.d0
  have ha0 := hn.a0
  obtain ⟨A, hA⟩ := hn.da
  obtain ⟨B, hB⟩ := hn.db
  have he : 0 < (d.natAbs : Int) := by omega
  have hAq : oA a d = A := by unfold oA; rw [hA]; exact Int.mul_ediv_cancel_left _ (by omega)
  have hP1 : P a 0 → (P (bN a b d) (d.natAbs : Int) ↔ P b d) := by
    intro ha
    unfold bN
    by_cases hd : d < 0
    · rw [if_pos hd]
      have hr : (-b) % a = red a (-b) := by unfold red; rw [if_neg (by omega)]
      rw [hr]
      have hdn : (d.natAbs : Int) = -d := by omega
      rw [hdn]
      constructor
      · intro h
        have := hP.mul h0 (lat_unred hP ha h) (-1)
        rwa [show (-1 : Int) * -b = b by omega, show (-1 : Int) * -d = d by omega] at this
      · intro h
        have := lat_red hP ha (hP.mul h0 h (-1))
        rwa [show (-1 : Int) * b = -b by omega, show (-1 : Int) * d = -d by omega] at this
    · rw [if_neg hd]
      have hdn : (d.natAbs : Int) = d := by omega
      rw [hdn]
  have hbd : (d.natAbs : Int) ∣ bN a b d := by
    unfold bN
    split
    · have h1 : (d.natAbs : Int) ∣ a := Int.dvd_trans (Int.dvd_mul_left 2 _) hn.da
      obtain ⟨p, hp⟩ := h1
      obtain ⟨q, hq⟩ := hn.db
      refine ⟨-q - p * (-b / a), ?_⟩
      rw [Int.emod_def]
      grind
    · exact hn.db
  obtain ⟨t, ht⟩ := hbd
  have hoB : oB a b d = (-t) % (2 * A) := by
    unfold oB
    rw [hAq, ht, ← Int.mul_neg, Int.mul_tdiv_cancel_left _ (by omega)]
  rw [hoB, hAq, ← hA]
  have hmod : ∃ k, (-t) % (2 * A) = -t - 2 * A * k := ⟨(-t) / (2 * A), by rw [Int.emod_def]⟩
  obtain ⟨k, hk⟩ := hmod
  rw [hk]
  have hval : -(d.natAbs : Int) * (-t - 2 * A * k) = bN a b d + k * a := by rw [ht, hA]; grind
  rw [hval]
  constructor
  · rintro ⟨h1, h2⟩
    refine ⟨h1, (hP1 h1).1 ?_⟩
    have := hP _ _ _ _ k h2 h1
    rwa [show bN a b d + k * a - k * a = bN a b d by omega, Int.mul_zero, Int.sub_zero] at this
  · rintro ⟨h1, h2⟩
    refine ⟨h1, ?_⟩
    have := hP.add ((hP1 h1).2 h2) h1 k
    rwa [Int.mul_zero, Int.add_zero] at this
theorem span_iff {P : Int → Int → Prop} (hP : Lat P) (h0 : P 0 0) (l : List (Int × Int)) (hn : Nice (l.foldl hStep (0, 0, 0)).1 (l.foldl hStep (0, 0, 0)).2.1 (l.foldl hStep (0, 0, 0)).2.2) :
    (P (2 * lE l * lA l) 0 ∧ P (-lE l * lB l) (lE l)) ↔ ∀ g ∈ l, P g.1 g.2 := by
  have h := nice_span hP h0 hn
  refine ⟨fun hx => ?_, fun hx => ?_⟩
  · obtain ⟨h1, h2⟩ := h.1 hx
    exact (fold_back hP h0 l (0, 0, 0) h1 h2).2
  · obtain ⟨h1, h2⟩ := fold_lat hP h0 l (0, 0, 0) hx h0 h0
    exact h.2 ⟨h1, h2⟩
/-- What it means to lie in an ideal. -/
def InI (e a b u v : Int) : Prop := ∃ i j k, u = e * i ∧ v = e * j ∧ i + j * b = 2 * a * k
theorem ih_in {e a b u v : Int} (he : 1 ≤ e) : ihB e a b u v = true ↔ InI e a b u v := by
  unfold ihB InI
  rw [decide_eq_true_iff]
  constructor
  · rintro ⟨h1, h2, h3⟩
    obtain ⟨i, rfl⟩ := Int.dvd_of_tmod_eq_zero h1
    obtain ⟨j, rfl⟩ := Int.dvd_of_tmod_eq_zero h2
    rw [Int.mul_tdiv_cancel_left _ (by omega), Int.mul_tdiv_cancel_left _ (by omega)] at h3
    obtain ⟨k, hk⟩ := Int.dvd_of_tmod_eq_zero h3
    exact ⟨i, j, k, rfl, rfl, hk⟩
  · rintro ⟨i, j, k, rfl, rfl, hk⟩
    rw [Int.mul_tdiv_cancel_left _ (by omega), Int.mul_tdiv_cancel_left _ (by omega), hk]
    exact ⟨Int.mul_tmod_right .., Int.mul_tmod_right .., Int.mul_tmod_right ..⟩
theorem InI.lat (e a b : Int) : Lat (InI e a b) := by
  rintro x y u v n ⟨i, j, k, rfl, rfl, h1⟩ ⟨i', j', k', rfl, rfl, h2⟩
  exact ⟨i - n * i', j - n * j', k - n * k', by grind, by grind, by grind⟩
theorem InI.zero (e a b : Int) : InI e a b 0 0 := ⟨0, 0, 0, by simp, by simp, by simp⟩
/-- The law of principal ideals. -/
theorem pr_span {P : Int → Int → Prop} (hP : Lat P) (h0 : P 0 0) {d u v : Int} (h : PrF d u v) : (P (2 * pE d u v * pA d u v) 0 ∧ P (-pE d u v * pB d u v) (pE d u v)) ↔ (P u v ∧ P (pr2 d u v) (pr3 d u v)) := by
  have hs := span_iff hP h0 [(u, v), (pr2 d u v, pr3 d u v)] h.nice
  simp only [List.mem_cons, List.not_mem_nil, or_false, forall_eq_or_imp, forall_eq] at hs
  exact hs
theorem times_key (r q c4 a k j e : Int) (h : r * r = r) : r * (e * (2 * a * k - j * (r - 2 * q))) + (r + 4 * c4) * (e * j) = 2 * (e * (r * a * k + j * (r * q + 2 * c4))) := by grind
theorem times_e3 (r q c4 a c : Int) (h : r * r = r) (h2 : (r - 2 * q) * (r - 2 * q) - (r + 4 * c4) = 4 * a * c) : r * q - q * q + c4 + a * c = 0 := by grind
theorem times_last (r q c4 a k j c : Int) (h : r * q - q * q + c4 + a * c = 0) : r * a * k + j * (r * q + 2 * c4) + (a * k + j * q) * (r - 2 * q) = 2 * a * ((r - q) * k - j * c) := by grind
theorem in_times {d e a b u v : Int} (h : idB d e a b = true) (hp : (u - d * v).tmod 2 = 0) (h0 : u ≠ 0 ∨ v ≠ 0) (hi : InI e a b u v) : InI e a b (pr2 d u v) (pr3 d u v) := by
  obtain ⟨hn, h1, -, h3, -, -, -, h8⟩ := idB_true h
  obtain ⟨d1, d2, d3⟩ := negB_true hn
  have g := gens_of (by omega) d3 hp h0
  obtain ⟨q, hq⟩ := par h8 d3
  obtain ⟨c, hc⟩ := Int.dvd_of_emod_eq_zero h8
  obtain ⟨c4, hc4⟩ := g.h4
  obtain ⟨i, j, k, hi1, hi2, hi3⟩ := hi
  have g1 := g.h1
  have g2 := g.h2
  have g3 := g.h3
  generalize pr2 d u v = X at *
  generalize pr3 d u v = Y at *
  generalize d % 2 = r at *
  -- u = e i, v = e j, i = 2 a k - j b ; Y = (u + r v)/2 = e (a k + j q)
  have hY : Y = e * (a * k + j * q) := by
    have : 2 * Y = 2 * (e * (a * k + j * q)) := by
      rw [g2, hi1, hi2, show i = 2 * a * k - j * b by omega]
      grind
    omega
  -- X = (r u + d v)/2
  have hX : X = e * (r * a * k + j * (r * q + 2 * c4)) := by
    have : 2 * X = 2 * (e * (r * a * k + j * (r * q + 2 * c4))) := by
      rw [g1, hi1, hi2, show i = 2 * a * k - j * b by omega, show d = r + 4 * c4 by omega, show b = r - 2 * q by omega]
      exact times_key r q c4 a k j e g3
    omega
  have hb : b = r - 2 * q := by omega
  -- r a k + j(r q + 2 c4) + (a k + j q) b = 2 a (..)
  have hr : r = 0 ∨ r = 1 := by
    have : r * (r - 1) = 0 := by rw [Int.mul_sub, Int.mul_one, g3, Int.sub_self]
    rcases Int.mul_eq_zero.1 this with h | h <;> omega
  refine ⟨r * a * k + j * (r * q + 2 * c4), a * k + j * q, (r - q) * k - j * c, hX, hY, ?_⟩
  have e1 : b * b - d = 4 * a * c := hc
  have e2 : d = r + 4 * c4 := by omega
  rw [hb, e2] at e1
  rw [hb]
  exact times_last r q c4 a k j c (times_e3 r q c4 a c g3 e1)
/-- The norm of a principal ideal. -/
theorem euc_det : ∀ (f : Nat) (b d x y : Int), y.natAbs ≤ f → ((eucI 0 f b d x y).2.1 * (eucI 0 f b d x y).2.2).natAbs = (b * y - d * x).natAbs := by
  intro f
  induction f with
  | zero =>
    intro b d x y h
    obtain rfl : y = 0 := by omega
    simp only [eucI]
    rw [show b * 0 - d * x = -(d * x) by rw [Int.mul_zero]; omega, Int.natAbs_neg]
  | succ f ih =>
    intro b d x y h
    simp only [eucI]
    split
    · rename_i h0
      subst h0
      show (d * x).natAbs = _
      rw [show b * 0 - d * x = -(d * x) by rw [Int.mul_zero]; omega, Int.natAbs_neg]
    · rename_i h0
      have hlt := rem_lt d h0
      rw [ih _ _ _ _ (by omega)]
      have hr : red 0 (b - d.tdiv y * x) = b - d.tdiv y * x := by simp [red]
      rw [hr, ← Int.natAbs_neg]
      congr 1
      grind
theorem euc_zero {a x y : Int} (h : y ≠ 0) : eucI a y.natAbs 0 0 x y = (x, y, 0) := by
  obtain ⟨f, hf⟩ : ∃ f, y.natAbs = f + 1 := ⟨y.natAbs - 1, by omega⟩
  rw [hf]
  simp only [eucI]
  rw [if_neg h]
  have hz : red a (0 - (0 : Int).tdiv y * x) = 0 := by simp [red]
  rw [hz, Int.zero_tdiv]
  cases f <;> simp [eucI]
theorem pr_det {d u v : Int} (h : PrF d u v) : (((prS d u v).1 * (prS d u v).2.2).natAbs : Int) = (u * pr3 d u v - v * pr2 d u v).natAbs := by
  unfold prS
  rw [first_step]
  have hd0 := h.nice.d0
  unfold prS at hd0
  rw [first_step] at hd0
  generalize pr2 d u v = X at *
  generalize pr3 d u v = Y at *
  by_cases hv : v = 0
  · subst hv
    rw [if_pos rfl] at hd0 ⊢
    have hY : Y ≠ 0 := by
      rintro rfl
      exact hd0 (by simp [hStep, eucI])
    have e := euc_zero (a := (u.natAbs : Int)) (x := X) hY
    simp only [hStep, e]
    rw [Int.zero_mul, Int.sub_zero, Int.natAbs_mul, Int.natAbs_mul]
    simp
  · rw [if_neg hv]
    have e := euc_det Y.natAbs u v X Y (Nat.le_refl _)
    simp only [hStep]
    rw [← e, Int.natAbs_mul, Int.natAbs_mul, Nat.mul_comm]
    simp
theorem prF_norm {d u v : Int} (hf : PrF d u v) (g : Gens d (d % 2) u v (pr2 d u v) (pr3 d u v)) : 4 * (pE d u v * pE d u v * pA d u v) = u * u - d * (v * v) := by
  have hdet := pr_det hf
  have g1 := g.h1
  have g2 := g.h2
  have g5 := g.pos
  have e2 : 2 * (u * pr3 d u v - v * pr2 d u v) = u * u - d * (v * v) := by grind
  have e3 : (((u * pr3 d u v - v * pr2 d u v).natAbs : Nat) : Int) = u * pr3 d u v - v * pr2 d u v := by omega
  rw [e3] at hdet
  obtain ⟨A, hA⟩ := hf.nice.da
  have hd0 := hf.nice.d0
  have ha0 := hf.nice.a0
  have hAq : pA d u v = A := by
    unfold pA oA
    rw [hA]
    exact Int.mul_ediv_cancel_left _ (by omega)
  have hAE : (prS d u v).1 = 2 * pE d u v * pA d u v := by rw [hAq]; exact hA
  have hmul : (((prS d u v).1 * (prS d u v).2.2).natAbs : Int) = (prS d u v).1 * pE d u v := by
    rw [Int.natAbs_mul]
    push_cast
    unfold pE
    rw [show (((prS d u v).1).natAbs : Int) = (prS d u v).1 by omega]
  rw [hmul, hAE] at hdet
  grind
end Go.Proofs.Ytladcjoiaoaedaa
