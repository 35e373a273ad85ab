/-
  The generator of an ideal, as the program finds it.
-/
import Derived.Test.YtladcjoiaoaedaaGnw
import Derived.Test.YtladcjoiaoaedaaPrin
namespace Go.Proofs.Ytladcjoiaoaedaa
open Go.RowKit
attribute [local simp, local go_sem] past_cell past_frozen past_tape
/-- The generators that the program has met. -/
def GI (d a b v : Int) (s : Int) (i : Nat) (p q : Int) : Prop := GenS d a b p q ∧ (q < v ∨ (q = v ∧ ((1 ≤ i ∧ p = s) ∨ (2 ≤ i ∧ p = -s))))
theorem GI_start {d a b m : Int} (hd : d < 0) (ha : 1 ≤ a) (hm : 0 ≤ m ∧ 4 * a < -d * ((m + 1) * (m + 1))) (p q : Int) : False ↔ GI d a b (-m) 0 0 p q := by
  refine ⟨fun h => h.elim, ?_⟩
  rintro ⟨⟨h1, -⟩, h2⟩
  have hq : q ≤ -(m + 1) := by omega
  have e1 : (m + 1) * (m + 1) ≤ q * q := by
    have := Int.mul_le_mul (show m + 1 ≤ -q by omega) (show m + 1 ≤ -q by omega) (by omega) (by omega)
    rwa [Int.neg_mul_neg] at this
  have e2 : -d * ((m + 1) * (m + 1)) ≤ -d * (q * q) := Int.mul_le_mul_of_nonneg_left e1 (by omega)
  have e3 : -d * (q * q) = -(d * (q * q)) := Int.neg_mul _ _
  have := sq_nn p
  omega
theorem GI_end {d a b m : Int} (hd : d < 0) (ha : 1 ≤ a) (hm : 0 ≤ m ∧ 4 * a < -d * ((m + 1) * (m + 1))) {v : Int} (hv : m < v) (s : Int) (p q : Int) : GI d a b v s 0 p q ↔ GenS d a b p q := by
  refine ⟨fun h => h.1, fun h => ⟨h, ?_⟩⟩
  left
  refine Int.lt_of_not_ge fun hle => ?_
  have e1 : (m + 1) * (m + 1) ≤ q * q := Int.mul_le_mul (by omega) (by omega) (by omega) (by omega)
  have e2 : -d * ((m + 1) * (m + 1)) ≤ -d * (q * q) := Int.mul_le_mul_of_nonneg_left e1 (by omega)
  have e3 : -d * (q * q) = -(d * (q * q)) := Int.neg_mul _ _
  have := sq_nn p
  have := h.1
  omega
theorem GI_skip {d a b v : Int} (h : ∀ t : Int, t * t ≠ 4 * a + d * v * v) (s : Int) (p q : Int) : GI d a b v s 0 p q ↔ GI d a b (v + 1) s 0 p q := by
  unfold GI
  constructor
  · rintro ⟨h1, h2⟩; exact ⟨h1, .inl (by omega)⟩
  · rintro ⟨h1, h2⟩
    refine ⟨h1, .inl ?_⟩
    have : q ≠ v := by
      rintro rfl
      refine h p ?_
      have h3 := h1.1
      have : d * (q * q) = d * q * q := by grind
      omega
    omega
theorem GI_next {d a b v s s' : Int} (hs : s * s = 4 * a + d * v * v) (p q : Int) : GI d a b v s 2 p q ↔ GI d a b (v + 1) s' 0 p q := by
  unfold GI
  constructor
  · rintro ⟨h1, h2⟩; exact ⟨h1, .inl (by omega)⟩
  · rintro ⟨h1, h2⟩
    refine ⟨h1, ?_⟩
    by_cases hq : q = v
    · right
      refine ⟨hq, ?_⟩
      subst hq
      have h3 := h1.1
      have e : d * (q * q) = d * q * q := by grind
      rcases sq_cases (show p * p = s * s by omega) with h | h
      · exact .inl ⟨by omega, h⟩
      · exact .inr ⟨by omega, h⟩
    · left; omega
theorem GI_zero {d a b v s s' : Int} (p q : Int) : GI d a b v s 0 p q ↔ GI d a b v s' 0 p q := by
  unfold GI
  constructor
  · rintro ⟨h1, h2⟩; exact ⟨h1, .inl (by omega)⟩
  · rintro ⟨h1, h2⟩; exact ⟨h1, .inl (by omega)⟩
theorem GI_yes {d a b v s u : Int} {i : Nat} (hu : (i = 0 ∧ u = s) ∨ (i = 1 ∧ u = -s)) (hg : GenS d a b u v) (p q : Int) : (GI d a b v s i p q ∨ (p = u ∧ q = v)) ↔ GI d a b v s (i + 1) p q := by
  unfold GI
  constructor
  · rintro (⟨h1, h2⟩ | ⟨rfl, rfl⟩)
    · exact ⟨h1, by omega⟩
    · exact ⟨hg, by omega⟩
  · rintro ⟨h1, h2⟩
    by_cases hp : p = u ∧ q = v
    · exact .inr hp
    · exact .inl ⟨h1, by omega⟩
theorem GI_no {d a b v s u : Int} {i : Nat} (hu : (i = 0 ∧ u = s) ∨ (i = 1 ∧ u = -s)) (hg : ¬ GenS d a b u v) (p q : Int) : GI d a b v s i p q ↔ GI d a b v s (i + 1) p q := by
  unfold GI
  constructor
  · rintro ⟨h1, h2⟩
    exact ⟨h1, by omega⟩
  · rintro ⟨h1, h2⟩
    have hp : ¬ (p = u ∧ q = v) := by rintro ⟨rfl, rfl⟩; exact hg h1
    exact ⟨h1, by omega⟩
theorem gen_fin {d a b e : Int} {f : Bool} {u v : Int} (h : Best (GenS d a b) f u v) : GenR d e a b (e * u) (e * v) f := by
  rcases h with ⟨rfl, rfl, rfl, h4⟩ | ⟨rfl, h2, h3⟩
  · exact .inr ⟨rfl, by omega, by omega, h4⟩
  · exact .inl ⟨rfl, u, v, h2, fun u' v' h' => h3 u' v' h', rfl, rfl⟩
/-- The bound of the search. -/
theorem bound_facts {d a : Int} (d1 : -2000 ≤ d) (d2 : d ≤ -3) (ha : 1 ≤ a ∧ a ≤ 10000) : 0 ≤ (4 * a).tdiv (-d) ∧ (4 * a).tdiv (-d) ≤ 40000 ∧ 0 ≤ isqrt ((4 * a).tdiv (-d)) ∧ isqrt ((4 * a).tdiv (-d)) ≤ 200 ∧ 4 * a < -d * ((isqrt ((4 * a).tdiv (-d)) + 1) * (isqrt ((4 * a).tdiv (-d)) + 1)) := by
  have e : (4 * a).tdiv (-d) = 4 * a / -d := Int.tdiv_eq_ediv_of_nonneg (by omega)
  rw [e]
  have h0 : 0 ≤ 4 * a / -d := Int.ediv_nonneg (by omega) (by omega)
  have h1 : 4 * a / -d ≤ 4 * a := Int.ediv_le_self _ (by omega)
  obtain ⟨s0, s1, s2⟩ := isqrt_spec h0
  refine ⟨h0, by omega, s0, Int.le_of_not_gt fun hlt => ?_, ?_⟩
  · have := Int.mul_le_mul (show (201 : Int) ≤ isqrt (4 * a / -d) by omega) (show (201 : Int) ≤ isqrt (4 * a / -d) by omega) (by omega) s0
    omega
  · have h2 := Int.lt_mul_ediv_self_add (x := 4 * a) (k := -d) (by omega)
    have h3 : -d * (4 * a / -d + 1) ≤ -d * ((isqrt (4 * a / -d) + 1) * (isqrt (4 * a / -d) + 1)) := Int.mul_le_mul_of_nonneg_left (by omega) (by omega)
    have h4 : -d * (4 * a / -d + 1) = -d * (4 * a / -d) + -d := by rw [Int.mul_add, Int.mul_one]
    omega
/-- The blocks of the search. -/
structure GB (w wr : World) (yb bb : Nat) (e a b bu bv : Int) : Prop where
  x : Blk w.heap.size 34 #[.int .i64 e, .int .i64 a, .int .i64 b] wr
  y : Blk yb 34 #[.int .i64 1, .int .i64 a, .int .i64 b] wr
  k : Blk bb 69 #[.int .i64 bu, .int .i64 bv] wr
  b : Below w.heap.size w wr
theorem GB.below {w wr w' : World} {yb bb : Nat} {e a b bu bv : Int} (h : GB w wr yb bb e a b bu bv) (hb : Below wr.heap.size wr w') : GB w w' yb bb e a b bu bv :=
  ⟨h.x.below hb, h.y.below hb, h.k.below hb, h.b.trans (hb.mono h.b.size)⟩
theorem GB.alloc {w wr : World} {yb bb : Nat} {e a b bu bv : Int} (h : GB w wr yb bb e a b bu bv) (o : Obj) : GB w (wr.alloc o) yb bb e a b bu bv :=
  ⟨h.x.alloc o, h.y.alloc o, h.k.alloc o, h.b.alloc h.b.size _⟩
theorem GB.set {w wr : World} {yb bb : Nat} {e a b bu bv : Int} (h : GB w wr yb bb e a b bu bv) (h1 : w.heap.size < yb) (h2 : yb < bb) (p q : Int) : ∃ w4, (wr.setCell ⟨bb, 0, none⟩ (.int .i64 p)).setCell ⟨bb, 1, none⟩ (.int .i64 q) = w4 ∧ GB w w4 yb bb e a b p q ∧ w4.heap.size = wr.heap.size ∧ wr.grownBy w4 (some bb) := by
  obtain ⟨w4, e4, k4, z4, g4⟩ := h.k.set2 (.int .i64 p) (.int .i64 q)
  exact ⟨w4, e4, ⟨h.x.grown g4 (by simp <;> omega), h.y.grown g4 (by simp <;> omega), k4, below_grown h.b g4 (by omega) (by have := h.b.size; omega)⟩, z4, g4⟩
theorem sqB_no {q : Int} (h : sqB q = false) (t : Int) : t * t ≠ q := by
  rintro rfl
  have h0 : 0 ≤ t * t := sq_nn t
  have hq : isqrt (t * t) = (t.natAbs : Int) := isqrt_unique (by omega) (by rw [Int.natAbs_mul_self']; omega) (by
    have e := Int.natAbs_mul_self' t
    have e2 : ((t.natAbs : Int) + 1) * ((t.natAbs : Int) + 1) = (t.natAbs : Int) * (t.natAbs : Int) + 2 * (t.natAbs : Int) + 1 := by grind
    omega)
  unfold sqB at h
  rw [hq, Int.natAbs_mul_self'] at h
  simp at h
  omega
theorem sqB_yes {q : Int} (h : sqB q = true) : 0 ≤ q ∧ isqrt q * isqrt q = q := by
  unfold sqB at h
  simpa using h
set_option maxRecDepth 100000 in
set_option maxHeartbeats 20000000 in
theorem implGen_any (d e a b : Int) (w : World) (hd : I64 d) :
    Calls Try.prog 30 #[.int .i64 d, .agg #[.int .i64 e, .int .i64 a, .int .i64 b]] w fun en w' => (∃ x y ok, en = .returned (.tuple #[.int .i64 x, .int .i64 y, .bool ok]) ∧ GenT d e a b x y ok) ∧ Below w.heap.size w w' := by
  have hgood : Hid (∀ w1, Calls Try.prog 42 #[.int .i64 d, .agg #[.int .i64 e, .int .i64 a, .int .i64 b]] w1 fun en w' => en = .returned (.bool (fnB d && idB d e a b)) ∧ Below w1.heap.size w1 w') := Lib.hid fun w1 => isWhole_any d e a b w1 hd
  cases hg : fnB d && idB d e a b with
  | false =>
    have HG := Lib.hid hg
    rw [hg] at hgood
    clear hg
    go_enter Try.func30, Try.ntmps30
    go_wp2_with fail
    refine (hgood.out _).mono ?_
    rintro e1 w1 ⟨rfl, hB1⟩
    obtain ⟨hC1, hF1⟩ := bcell hB1
    have hS1 := hB1.size
    simp at hS1
    go_wp2_with fail
    refine bodyPost_ret (v := .tuple #[.int .i64 0, .int .i64 0, .bool false]) (by go_light; simp [results, Try.results30, go_sem, *]) rfl ⟨⟨0, 0, false, rfl, .inr ⟨HG.out, rfl, rfl, rfl⟩⟩, ?_⟩
    repeat (first | with_reducible exact Below.refl _ _ | with_reducible assumption | ((with_reducible refine blA ?_ ?_); (focus (first | omega | (simp <;> omega)))) | (with_reducible refine blD ?_) | (with_reducible refine blN ?_) | ((with_reducible refine blS ?_ ?_); (focus (first | omega | (simp <;> omega)))) | ((with_reducible refine blT (by assumption) ?_ ?_); (focus (first | omega | (simp <;> omega)))))
  | true =>
    have HG := Lib.hid hg
    rw [hg] at hgood
    have hid : idB d e a b = true := by simp only [Bool.and_eq_true] at hg; exact hg.2
    obtain ⟨h0, h1, h2, h3, h4, h5, h6, h7⟩ := idB_true hid
    obtain ⟨d1, d2, d3⟩ := negB_true h0
    obtain ⟨n1, n2, m1, m2, m3⟩ := bound_facts d1 d2 ⟨h3, h4⟩
    have hroot : Hid (∀ w1, Calls Try.prog 62 #[.int .i64 ((4 * a).tdiv (-d))] w1 fun en w' => en = .returned (.int .i64 (isqrt ((4 * a).tdiv (-d)))) ∧ w1 = w') := Lib.hid fun w1 => root_any _ w1 n1 (by omega)
    obtain ⟨n0, hn0⟩ : ∃ n0, (4 * a).tdiv (-d) = n0 := ⟨_, rfl⟩
    rw [hn0] at n1 n2 m1 m2 m3 hroot
    obtain ⟨m, hm⟩ : ∃ m, isqrt n0 = m := ⟨_, rfl⟩
    rw [hm] at m1 m2 m3 hroot
    have HM := Lib.hid (show 0 ≤ m ∧ 4 * a < -d * ((m + 1) * (m + 1)) from ⟨m1, m3⟩)
    have hw1 : wrap64 (4 * a) = 4 * a := by unfold wrap64; omega
    have hw2 : wrap64 (-d) = -d := by unfold wrap64; omega
    have hw3 : wrap64 n0 = n0 := by unfold wrap64; omega
    have hw4 : wrap64 (-m) = -m := by unfold wrap64; omega
    have hdz : ¬ -d = 0 := by omega
    have hdz' : ¬ d = 0 := by omega
    have hneg := Lib.hid h0
    have HID := Lib.hid hid
    clear hg hid h0 h7 m3 hm hd
    go_enter Try.func30, Try.ntmps30
    go_wp2_with fail
    refine (hgood.out _).mono ?_
    rintro e1 w1 ⟨rfl, hB1⟩
    have hb1 := (Blk.new w 34 #[.int .i64 e, .int .i64 a, .int .i64 b]).below hB1
    have hl1 : Below w.heap.size w w1 := by repeat (first | with_reducible exact Below.refl _ _ | with_reducible assumption | ((with_reducible refine blA ?_ ?_); (focus (first | omega | (simp <;> omega)))) | (with_reducible refine blD ?_) | (with_reducible refine blN ?_) | ((with_reducible refine blS ?_ ?_); (focus (first | omega | (simp <;> omega)))) | ((with_reducible refine blT (by assumption) ?_ ?_); (focus (first | omega | (simp <;> omega)))))
    clear hB1 hgood
    have cx := hb1.cell
    have lx := hb1.lt
    have HX := Lib.hid hb1
    have HB := Lib.hid hl1
    clear hb1 hl1
    go_wp2_with fail
    obtain ⟨y2, ey2, HG2⟩ : ∃ y2, (w1.alloc (.cells #[.int .i64 1, .int .i64 a, .int .i64 b] 34)).alloc (.cells #[.int .i64 0, .int .i64 0] 69) = y2 ∧ Hid (GB w y2 w1.heap.size (w1.heap.size + 1) e a b 0 0) := by
      refine ⟨_, rfl, Lib.hid ⟨(HX.out.alloc _).alloc _, (Blk.new _ _ _).alloc _, ?_, (HB.out.alloc (by have := HB.out.size; omega) _).alloc (by have := HB.out.size; simp <;> omega) _⟩⟩
      have := Blk.new (w1.alloc (.cells #[.int .i64 1, .int .i64 a, .int .i64 b] 34)) 69 #[.int .i64 0, .int .i64 0]
      simpa using this
    rw [ey2]
    have hyb : w.heap.size < w1.heap.size := lx
    have hybb : w1.heap.size < w1.heap.size + 1 := by omega
    refine (hroot.out _).mono ?_
    rintro e2 w2 ⟨rfl, rfl⟩
    clear ey2 cx lx HX HB hroot
    go_wp2_with fail
    obtain ⟨yb, hyb'⟩ : ∃ yb, w1.heap.size = yb := ⟨_, rfl⟩
    obtain ⟨bb, hbb'⟩ : ∃ bb, w1.heap.size + 1 = bb := ⟨_, rfl⟩
    rw [hbb'] at hybb ⊢ HG2
    rw [hyb'] at hyb hybb ⊢ HG2
    clear hyb' hbb' hw2 hw3 hw4 hn0
    go_loopw [9, 11] (fun fv vv wr => ∃ (f : Bool) (v bu bv : Int), fv = .bool f ∧ vv = .int .i64 v ∧ -m ≤ v ∧ v ≤ m + 1 ∧ Hid (Best (GI d a b v 0 0) f bu bv) ∧ Hid (GB w wr yb bb e a b bu bv)) (fun _ vv _ => (m + 1 - intOf vv).toNat)
    case atStart =>
      exact ⟨false, -m, 0, 0, rfl, rfl, by omega, by omega, Lib.hid (Best.none.mono (GI_start (by omega) h3 HM.out)), HG2⟩
    case round =>
      clear HG2
      obtain ⟨f, v, bu, bv, rfl, rfl, hv1, hv2, hB, hK⟩ := hrel
      obtain ⟨wo, hwo⟩ : ∃ wo : World, wo = wr := ⟨_, rfl⟩
      subst hwo
      have cx := hK.out.x.cell
      have lx := hK.out.x.lt
      by_cases hle : v ≤ m
      · obtain ⟨k1, k2⟩ := mul_bd (show Bd 2000 d from ⟨by omega, by omega⟩) (show Bd 201 v from ⟨by omega, by omega⟩) (show (2000 : Int) * 201 ≤ 402000 by decide)
        obtain ⟨k3, k4⟩ := mul_bd (show Bd 402000 (d * v) from ⟨k1, k2⟩) (show Bd 201 v from ⟨by omega, by omega⟩) (show (402000 : Int) * 201 ≤ 80802000 by decide)
        have hk1 : wrap64 (d * v) = d * v := by unfold wrap64; omega
        have hk2 : wrap64 (d * v * v) = d * v * v := by unfold wrap64; omega
        obtain ⟨q, hq⟩ : ∃ q, 4 * a + d * v * v = q := ⟨_, rfl⟩
        have hk3 : wrap64 (4 * a + d * v * v) = q := by rw [hq]; unfold wrap64; omega
        have hk4 : wrap64 q = q := by unfold wrap64; omega
        have hkv : wrap64 (v + 1) = v + 1 := by unfold wrap64; omega
        have hsq : Hid (∀ w1, Calls Try.prog 63 #[.int .i64 q] w1 fun en w' => en = .returned (.bool (sqB q)) ∧ w1 = w') := Lib.hid fun w1 => isSquare_any q w1 (by omega)
        have hq9 : q ≤ 80842000 := by omega
        have HQ := Lib.hid hq
        have hqa : 0 ≤ -d * (v * v) := Int.mul_nonneg (by omega) (sq_nn v)
        have hqb : q ≤ 40000 := by
          have : -d * (v * v) = -(d * v * v) := by grind
          omega
        clear k1 k2 k3 k4 hqa
        cases hs : sqB q with
        | false =>
          have HNX := Lib.hid (hB.out.mono fun p r => (GI_skip (fun t => by rw [hq]; exact sqB_no hs t) 0 p r))
          rw [hs] at hsq
          clear hs
          go_wp2_with fail
          refine (hsq.out _).mono ?_
          rintro e3 w3 ⟨rfl, rfl⟩
          clear cx lx hk1 hk2 hk3 hk4 hq hsq hw1
          go_wp2_with fail
          go_roundw
          case rel =>
            go_light
            exact ⟨f, v + 1, bu, bv, rfl, by go_num, by omega, by omega, HNX, hK⟩
          case measure => simp [intOf]; omega
        | true =>
          obtain ⟨hq0, hss⟩ := sqB_yes hs
          have hrt : Hid (∀ w1, Calls Try.prog 62 #[.int .i64 q] w1 fun en w' => en = .returned (.int .i64 (isqrt q)) ∧ w1 = w') := Lib.hid fun w1 => root_any _ w1 hq0 (by omega)
          have hs0 := (isqrt_spec hq0).1
          obtain ⟨s, hsv⟩ : ∃ s, isqrt q = s := ⟨_, rfl⟩
          rw [hsv] at hss hrt hs0
          have hs200 : s ≤ 200 := by
            refine Int.le_of_not_gt fun hlt => ?_
            have := Int.mul_le_mul (show (201 : Int) ≤ s by omega) (show (201 : Int) ≤ s by omega) (by omega) hs0
            omega
          have HSS : Hid (s * s = 4 * a + d * v * v) := Lib.hid (by rw [hss, hq])
          have hwns : wrap64 (-s) = -s := by unfold wrap64; omega
          rw [hs] at hsq
          clear hs hss hsv
          go_wp2_with fail
          refine (hsq.out _).mono ?_
          rintro e3 w3 ⟨rfl, rfl⟩
          clear cx lx hk2 hk3 hk4 hq hsq hw1
          go_wp2_with fail
          refine (hrt.out _).mono ?_
          rintro e4 w4 ⟨rfl, rfl⟩
          go_wp2_with fail
          refine (hrt.out _).mono ?_
          rintro e5 w5 ⟨rfl, rfl⟩
          obtain ⟨y6, ey6, KS, KG⟩ : ∃ y6, wo.alloc (.cells #[.int .i64 s, .int .i64 (-s)] 3) = y6 ∧ Hid (Blk wo.heap.size 3 #[.int .i64 s, .int .i64 (-s)] y6) ∧ Hid (GB w y6 yb bb e a b bu bv) := ⟨_, rfl, Lib.hid (Blk.new _ _ _), Lib.hid (hK.out.alloc _)⟩
          have hbbs : bb < wo.heap.size := hK.out.k.lt
          obtain ⟨bs, hbs⟩ : ∃ bs, wo.heap.size = bs := ⟨_, rfl⟩
          rw [hbs] at KS hbbs
          clear hK hrt
          go_wp2_with fail
          try rw [ey6]
          clear ey6
          go_loopw [9, 58] (fun fv iv wr => ∃ (f : Bool) (i : Nat) (bu bv : Int), fv = .bool f ∧ iv = .int .i64 (i : Int) ∧ i ≤ 2 ∧ Hid (Best (GI d a b v s i) f bu bv) ∧ Hid (GB w wr yb bb e a b bu bv) ∧ Hid (Blk bs 3 #[.int .i64 s, .int .i64 (-s)] wr)) (fun _ iv _ => 3 - (intOf iv).toNat)
          case atStart =>
            exact ⟨f, 0, bu, bv, rfl, rfl, by omega, Lib.hid (hB.out.mono fun p r => GI_zero p r), KG, KS⟩
          case round =>
            clear KG KS hB
            obtain ⟨f, i, bu, bv, rfl, rfl, hi, hB, hK, hS⟩ := hrel
            obtain ⟨wo, hwo⟩ : ∃ wo : World, wo = wr := ⟨_, rfl⟩
            subst hwo
            have cs := hS.out.cell
            have ls := hS.out.lt
            by_cases hi2 : i < 2
            · have hi2' : (i : Int) < 2 := by omega
              obtain ⟨t, ht, htt⟩ : ∃ t : Int, wo.cell? ⟨bs, i, none⟩ = some (.int .i64 t) ∧ Hid ((i = 0 ∧ t = s) ∨ (i = 1 ∧ t = -s)) := by
                rcases (show i = 0 ∨ i = 1 by omega) with rfl | rfl
                · exact ⟨s, by rw [cs]; rfl, Lib.hid (.inl ⟨rfl, rfl⟩)⟩
                · exact ⟨-s, by rw [cs]; rfl, Lib.hid (.inr ⟨rfl, rfl⟩)⟩
              clear cs
              have hnm : t * t - d * (v * v) = 4 * a := by
                have e1 : t * t = s * s := by rcases htt.out with ⟨_, rfl⟩ | ⟨_, rfl⟩ <;> grind
                have e2 := HSS.out
                have e3 : d * (v * v) = d * v * v := by grind
                omega
              obtain ⟨hel, hnz, ⟨t1, t2⟩, -⟩ := genS_el hneg.out ⟨h3, h4⟩ hnm
              have hprf := prF hneg.out hel hnz
              have hev : (t - d * v).tmod 2 = 0 := by have := of_decide_eq_true hel; exact this.2
              have hid1 : idB d 1 a b = true := by
                obtain ⟨g0, g1, g2, g3, g4, g5, g6, g7⟩ := idB_true HID.out
                exact decide_eq_true ⟨g0, by omega, by omega, g3, g4, g5, g6, g7⟩
              have hpe := pr_eq (b := b) hid1 hnm
              have hpr : Hid (∀ w1, Calls Try.prog 64 #[.int .i64 d, .int .i64 t, .int .i64 v] w1 fun en w' => en = .returned (.agg #[.int .i64 (pE d t v), .int .i64 (pA d t v), .int .i64 (pB d t v)]) ∧ Below w1.heap.size w1 w') := Lib.hid fun w1 => principal_any d t v w1 hneg.out hprf
              generalize pE d t v = p1 at *
              generalize pA d t v = p2 at *
              generalize pB d t v = p3 at *
              have HPE : Hid ((p1 = 1 ∧ p2 = a ∧ p3 = b) ↔ GenS d a b t v) := Lib.hid (hpe.trans ⟨fun h => ⟨hnm, h⟩, fun h => h.2⟩)
              have hdv : Bd 402000 (d * v) := mul_bd (show Bd 2000 d from ⟨by omega, by omega⟩) (show Bd 201 v from ⟨by omega, by omega⟩) (by decide)
              obtain ⟨q1, q2⟩ := hdv
              have hwt : wrap64 (t - d * v) = t - d * v := by unfold wrap64; omega
              clear hpe hid1 hprf hel hnz hnm q1 q2
              have cy := hK.out.y.cell
              have ly := hK.out.y.lt
              by_cases hp : p1 = 1 ∧ p2 = a ∧ p3 = b
              · have HGS := Lib.hid (HPE.out.1 hp)
                obtain ⟨rfl, rfl, rfl⟩ := hp
                go_wp2_with fail
                refine wp_region_past (by kernel_rfl) (by kernel_rfl) ?_
                repeat (first | go_big_quiet_skip | (go_big_quiet_want; go_big_quiet_op; first | go_big_quiet_on | (apply Exists.intro; refine ⟨fun _ => ?_, ?_⟩; (focus (first | (go_at_call 64; exact past_of (hpr.out _)))); go_big_quiet_on)))
                refine wpQuiet_nil ?_
                intro w1 hw'
                have hB1 := past_below hw'
                clear hw'
                obtain ⟨hC1, hF1⟩ := bcell hB1
                have hS1 := hB1.size
                (try simp at hS1)
                (try have hS1_w0 : w.heap.size < w1.heap.size := by omega)
                (try have hS1_w1 : w.heap.size + 1 < w1.heap.size := by omega)
                (try have hS1_w2 : w.heap.size + 1 + 1 < w1.heap.size := by omega)
                (try have hS1_w3 : w.heap.size + 1 + 1 + 1 < w1.heap.size := by omega)
                (try have hS1_w4 : w.heap.size + 1 + 1 + 1 + 1 < w1.heap.size := by omega)
                have hK1 := Lib.hid (hK.out.below hB1)
                have hS1 := Lib.hid (hS.out.below hB1)
                have ck := hK1.out.k.cell
                have lk := hK1.out.k.lt
                have fk := hK1.out.k.froz
                obtain ⟨y4, ey4, k4, z4, g4⟩ := hK1.out.set hyb hybb t v
                have K4 := Lib.hid k4
                have S4 := Lib.hid (hS1.out.grown g4 (by simp <;> omega))
                clear hB1 hC1 hF1 hK hS cy ly ht ls hpr k4 z4 g4
                cases f with
                | false =>
                  go_wp2_with fail
                  go_roundw
                  case rel =>
                    go_light
                    exact ⟨true, i + 1, t, v, rfl, by go_num, by omega, Lib.hid ((hB.out.take (.inl rfl)).mono fun p r => GI_yes htt.out HGS.out p r), K4, S4⟩
                  case measure => simp [intOf]; omega
                | true =>
                  by_cases hc1 : bu < t
                  · have hd1 : decide (t > bu) = true := decide_eq_true hc1
                    go_wp2_with fail
                    go_roundw
                    case rel =>
                      go_light
                      exact ⟨true, i + 1, t, v, rfl, by go_num, by omega, Lib.hid ((hB.out.take (.inr (.inl hc1))).mono fun p r => GI_yes htt.out HGS.out p r), K4, S4⟩
                    case measure => simp [intOf]; omega
                  · have hd1 : decide (t > bu) = false := decide_eq_false hc1
                    by_cases hc2 : t = bu
                    · by_cases hc3 : bv < v
                      · have hd3 : decide (v > bv) = true := decide_eq_true hc3
                        subst hc2
                        go_wp2_with fail
                        go_roundw
                        case rel =>
                          go_light
                          exact ⟨true, i + 1, t, v, rfl, by go_num, by omega, Lib.hid ((hB.out.take (.inr (.inr ⟨rfl, hc3⟩))).mono fun p r => GI_yes htt.out HGS.out p r), K4, S4⟩
                        case measure => simp [intOf]; omega
                      · have hd3 : decide (v > bv) = false := decide_eq_false hc3
                        subst hc2
                        go_wp2_with fail
                        go_roundw
                        case rel =>
                          go_light
                          exact ⟨true, i + 1, t, bv, rfl, by go_num, by omega, Lib.hid ((hB.out.keep rfl (by omega)).mono fun p r => GI_yes htt.out HGS.out p r), hK1, hS1⟩
                        case measure => simp [intOf]; omega
                    · have hd2 : (t == bu) = false := by simp [hc2]
                      go_wp2_with fail
                      go_roundw
                      case rel =>
                        go_light
                        exact ⟨true, i + 1, bu, bv, rfl, by go_num, by omega, Lib.hid ((hB.out.keep rfl (by omega)).mono fun p r => GI_yes htt.out HGS.out p r), hK1, hS1⟩
                      case measure => simp [intOf]; omega
              · have HNX : Hid (Best (GI d a b v s (i + 1)) f bu bv) := Lib.hid (hB.out.mono fun p r => GI_no htt.out (fun h => hp (HPE.out.2 h)) p r)
                have h3w : ¬ p1 = 1 ∨ (p1 = 1 ∧ ¬ p2 = a) ∨ (p1 = 1 ∧ p2 = a ∧ ¬ p3 = b) := by omega
                clear hp
                rcases h3w with hp1 | ⟨hp1, hp2⟩ | ⟨hp1, hp2, hp3⟩
                all_goals
                  go_wp2_with fail
                  refine wp_region_past (by kernel_rfl) (by kernel_rfl) ?_
                  repeat (first | go_big_quiet_skip | (go_big_quiet_want; go_big_quiet_op; first | go_big_quiet_on | (apply Exists.intro; refine ⟨fun _ => ?_, ?_⟩; (focus (first | (go_at_call 64; exact past_of (hpr.out _)))); go_big_quiet_on)))
                  refine wpQuiet_nil ?_
                  intro w2 hw'
                  have hB2 := past_below hw'
                  clear hw'
                  obtain ⟨hC2, hF2⟩ := bcell hB2
                  have hS2 := hB2.size
                  (try simp at hS2)
                  (try have hS2_w0 : w.heap.size < w2.heap.size := by omega)
                  (try have hS2_w1 : w.heap.size + 1 < w2.heap.size := by omega)
                  (try have hS2_w2 : w.heap.size + 1 + 1 < w2.heap.size := by omega)
                  (try have hS2_w3 : w.heap.size + 1 + 1 + 1 < w2.heap.size := by omega)
                  (try have hS2_w4 : w.heap.size + 1 + 1 + 1 + 1 < w2.heap.size := by omega)
                  (try have hS2_1 : w1.heap.size < w2.heap.size := by omega)
                  (try have hS2_1' : w1.heap.size + 1 < w2.heap.size := by omega)
                  have hK1 := Lib.hid (hK.out.below hB2)
                  have hS1 := Lib.hid (hS.out.below hB2)
                  clear hB2 hC2 hF2 hK hS cy ly ht ls hpr
                  go_wp2_with fail
                  go_roundw
                  case rel =>
                    go_light
                    exact ⟨f, i + 1, bu, bv, rfl, by go_num, by omega, HNX, hK1, hS1⟩
                  case measure => simp [intOf]; omega
            · have hi2' : ¬ (i : Int) < 2 := by omega
              have hi' : i = 2 := by omega
              have HNX : Hid (Best (GI d a b (v + 1) 0 0) f bu bv) := Lib.hid (hB.out.mono fun p r => (by rw [hi']; exact GI_next (s' := 0) HSS.out p r))
              clear hi'
              clear cs ls hwns
              go_wp2_with fail
              go_roundw
              case rel =>
                go_light
                exact ⟨f, v + 1, bu, bv, rfl, by go_num, by omega, by omega, HNX, hK⟩
              case measure => simp [intOf]; omega
      · have HFIN := Lib.hid (gen_fin (e := e) (hB.out.mono fun p r => GI_end (by omega) h3 HM.out (by omega) 0 p r))
        have ck := hK.out.k.cell
        have lk := hK.out.k.lt
        have cx := hK.out.x.cell
        have lx := hK.out.x.lt
        have hbb : Bd 200 bu ∧ Bd 200 bv := by
          rcases hB.out with ⟨_, rfl, rfl, _⟩ | ⟨_, h, _⟩
          · exact ⟨⟨by omega, by omega⟩, ⟨by omega, by omega⟩⟩
          · exact (genS_el hneg.out ⟨h3, h4⟩ h.1.1).2.2
        obtain ⟨⟨u1, u2⟩, ⟨u3, u4⟩⟩ := hbb
        obtain ⟨e1, e2⟩ := mul_bd (show Bd 10000 e from ⟨by omega, by omega⟩) (show Bd 200 bu from ⟨u1, u2⟩) (show (10000 : Int) * 200 ≤ 2000000 by decide)
        obtain ⟨e3, e4⟩ := mul_bd (show Bd 10000 e from ⟨by omega, by omega⟩) (show Bd 200 bv from ⟨u3, u4⟩) (show (10000 : Int) * 200 ≤ 2000000 by decide)
        have hwu : wrap64 (e * bu) = e * bu := by unfold wrap64; omega
        have hwv : wrap64 (e * bv) = e * bv := by unfold wrap64; omega
        clear u1 u2 u3 u4 e1 e2 e3 e4 hw1
        go_wp2_with fail
        go_region
        all_goals go_wp2_with fail
        all_goals refine bodyPost_ret (v := .tuple #[.int .i64 (e * bu), .int .i64 (e * bv), .bool f]) (by go_light; simp [results, Try.results30, go_sem, *]) rfl ⟨⟨e * bu, e * bv, f, rfl, .inl ⟨HG.out, HFIN.out⟩⟩, by first | exact hK.out.b | exact hK.out.b.drew⟩
end Go.Proofs.Ytladcjoiaoaedaa
