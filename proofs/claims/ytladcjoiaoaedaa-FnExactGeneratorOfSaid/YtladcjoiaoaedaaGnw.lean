/-
  The generator of an ideal, as the reference finds it.
-/
import Derived.Test.YtladcjoiaoaedaaGnm
import Derived.Test.YtladcjoiaoaedaaRde
import Derived.Test.YtladcjoiaoaedaaVat
import Derived.Test.YtladcjoiaoaedaaPow
namespace Go.Proofs.Ytladcjoiaoaedaa
open Go.RowKit
attribute [local simp, local go_sem] past_cell past_frozen past_tape
/-- What GeneratorOf returns. -/
def GenT (d e a b x y : Int) (ok : Bool) : Prop := ((fnB d && idB d e a b) = true ∧ GenR d e a b x y ok) ∨ ((fnB d && idB d e a b) = false ∧ x = 0 ∧ y = 0 ∧ ok = false)
theorem GenT.unique {d e a b x y x' y' : Int} {ok ok' : Bool} (h : GenT d e a b x y ok) (h' : GenT d e a b x' y' ok') : x = x' ∧ y = y' ∧ ok = ok' := by
  rcases h with ⟨h1, h2⟩ | ⟨h1, rfl, rfl, rfl⟩ <;> rcases h' with ⟨k1, k2⟩ | ⟨k1, rfl, rfl, rfl⟩
  · exact h2.unique k2
  · rw [h1] at k1; cases k1
  · rw [h1] at k1; cases k1
  · exact ⟨rfl, rfl, rfl⟩
/-- The points on the list, as elements. -/
theorem vp_gen {d a b c : Int} (ha : 1 ≤ a) (hc : b * b - d = 4 * a * c) (z : Int × Int) : VP a (-b) d z ↔ GenS d a b (2 * a * z.1 - b * z.2) z.2 := by
  unfold VP GenS
  have e : 2 * a * z.1 + -b * z.2 = 2 * a * z.1 - b * z.2 := by grind
  rw [e]
  constructor
  · intro h; exact ⟨h, ⟨z.1, by omega⟩⟩
  · exact fun h => h.1
/-- What the loop over the list keeps. -/
def GS (a b : Int) (l : List (Int × Int)) (k : Nat) (u v : Int) : Prop := ∃ j z, j < k ∧ l[j]? = some z ∧ u = 2 * a * z.1 - b * z.2 ∧ v = z.2
def BestE (S : Int → Int → Prop) (e : Int) (f : Bool) (pu pv : Int) : Prop := ∃ bu bv, pu = e * bu ∧ pv = e * bv ∧ Best S f bu bv
theorem GS_zero (a b : Int) (l : List (Int × Int)) (u v : Int) : False ↔ GS a b l 0 u v := ⟨fun h => h.elim, fun ⟨j, z, h, _⟩ => by omega⟩
theorem BestE.zero (a b e : Int) (l : List (Int × Int)) : BestE (GS a b l 0) e false 0 0 :=
  ⟨0, 0, by omega, by omega, Best.none.mono (GS_zero a b l)⟩
theorem GS_succ {a b : Int} {l : List (Int × Int)} {k : Nat} {x y : Int} (hz : l[k]? = some (x, y)) (u v : Int) : (GS a b l k u v ∨ (u = 2 * a * x - b * y ∧ v = y)) ↔ GS a b l (k + 1) u v := by
  constructor
  · rintro (⟨j, z, h1, h2⟩ | ⟨h1, h2⟩)
    · exact ⟨j, z, by omega, h2⟩
    · exact ⟨k, (x, y), by omega, hz, h1, h2⟩
  · rintro ⟨j, z, h1, h2, h3, h4⟩
    rcases (show j < k ∨ j = k by omega) with hj | rfl
    · exact .inl ⟨j, z, hj, h2, h3, h4⟩
    · rw [hz] at h2
      cases h2
      exact .inr ⟨h3, h4⟩
theorem scale_cmp {e u v p q : Int} (he : 1 ≤ e) : (e * p < e * u ∨ (e * u = e * p ∧ e * q < e * v)) ↔ (p < u ∨ (u = p ∧ q < v)) := by
  have h1 : ∀ s t : Int, e * s < e * t ↔ s < t := fun s t => Int.mul_lt_mul_left (by omega)
  have h2 : e * u = e * p ↔ u = p := ⟨fun h => Int.eq_of_mul_eq_mul_left (show e ≠ 0 by omega) h, fun h => by rw [h]⟩
  rw [h1, h1, h2]
theorem BestE.take {a b e : Int} {l : List (Int × Int)} {k : Nat} {x y : Int} {f : Bool} {pu pv tu tv : Int} (he : 1 ≤ e) (h : BestE (GS a b l k) e f pu pv) (hz : l[k]? = some (x, y)) (hu : e * (2 * a * x - b * y) = tu) (hv : e * y = tv) (hc : f = false ∨ pu < tu ∨ (tu = pu ∧ pv < tv)) : BestE (GS a b l (k + 1)) e true tu tv := by
  obtain ⟨bu, bv, rfl, rfl, hb⟩ := h
  subst hu hv
  rw [scale_cmp he] at hc
  exact ⟨_, _, rfl, rfl, (hb.take hc).mono (GS_succ hz)⟩
theorem BestE.keep {a b e : Int} {l : List (Int × Int)} {k : Nat} {x y : Int} {f : Bool} {pu pv tu tv : Int} (he : 1 ≤ e) (h : BestE (GS a b l k) e f pu pv) (hz : l[k]? = some (x, y)) (hu : e * (2 * a * x - b * y) = tu) (hv : e * y = tv) (hf : f = true) (hc : ¬ (pu < tu ∨ (tu = pu ∧ pv < tv))) : BestE (GS a b l (k + 1)) e f pu pv := by
  obtain ⟨bu, bv, rfl, rfl, hb⟩ := h
  subst hu hv
  rw [scale_cmp he] at hc
  exact ⟨_, _, rfl, rfl, (hb.keep hf hc).mono (GS_succ hz)⟩
theorem gen_done {a b c d e : Int} {l : List (Int × Int)} {f : Bool} {pu pv : Int} (ha : 1 ≤ a) (hc : b * b - d = 4 * a * c) (hM : ∀ z, z ∈ l ↔ GenS d a b (2 * a * z.1 - b * z.2) z.2) (hr : Rep a b c 1) (h : BestE (GS a b l l.length) e f pu pv) : GenR d e a b pu pv true := by
  have hS : ∀ u v, GS a b l l.length u v ↔ GenS d a b u v := fun u v => by
    constructor
    · rintro ⟨j, z, _, h2, rfl, rfl⟩
      exact (hM z).1 (List.mem_of_getElem? h2)
    · intro hg
      obtain ⟨x, rfl⟩ := genS_point (c := c) hg
      obtain ⟨j, hj⟩ := List.getElem?_of_mem ((hM (x, v)).2 hg)
      have hjl : j < l.length := by
        rcases Nat.lt_or_ge j l.length with h1 | h1
        · exact h1
        · rw [List.getElem?_eq_none h1] at hj; cases hj
      exact ⟨j, (x, v), hjl, hj, rfl, rfl⟩
  obtain ⟨bu, bv, rfl, rfl, hb⟩ := h
  obtain ⟨u, v, hg⟩ := (genS_rep ha hc).1 hr
  rcases hb with ⟨-, -, -, h4⟩ | ⟨-, h2, h3⟩
  · exact absurd ((hS u v).2 hg) (h4 u v)
  · exact .inl ⟨rfl, bu, bv, (hS _ _).1 h2, fun u' v' h' => h3 u' v' ((hS _ _).2 h'), rfl, rfl⟩
/-- The sizes of a generator's numbers. -/
theorem gen_bd {d a b x y : Int} (hn : negB d = true) (ha : 1 ≤ a ∧ a ≤ 10000) (hb : 0 ≤ b ∧ b < 2 * a) (h : GenS d a b (2 * a * x - b * y) y) : Bd 200 (2 * a * x - b * y) ∧ Bd 200 y ∧ Bd 4000000 (b * y) ∧ Bd 4000200 (2 * a * x) := by
  obtain ⟨-, -, h1, h2⟩ := genS_el hn ha h.1
  obtain ⟨k1, k2⟩ := mul_bd (show Bd 20000 b from ⟨by omega, by omega⟩) h2 (show (20000 : Int) * 200 ≤ 4000000 by decide)
  obtain ⟨g1, g2⟩ := h1
  exact ⟨⟨g1, g2⟩, h2, ⟨k1, k2⟩, ⟨by omega, by omega⟩⟩
theorem foOpposite_any (a b c : Int) (w : World) (hb : Bd 20000 b) : Calls Try.prog 60 #[.agg #[.int .i64 a, .int .i64 b, .int .i64 c]] w fun en w' => en = .returned (.agg #[.int .i64 a, .int .i64 (-b), .int .i64 c]) ∧ Below w.heap.size w w' := by
  obtain ⟨b1, b2⟩ := hb
  have hw : wrap64 (-b) = -b := by unfold wrap64; omega
  go_enter Try.func60, Try.ntmps60
  go_wp2
  refine bodyPost_ret (v := .agg #[.int .i64 a, .int .i64 (-b), .int .i64 c]) (by go_light; simp [results, Try.results60, go_sem, *]) rfl ⟨rfl, ?_⟩
  repeat (first | with_reducible exact Below.refl _ _ | with_reducible assumption | ((with_reducible refine blA ?_ ?_); (focus (first | omega | (simp <;> omega)))) | (with_reducible refine blD ?_) | (with_reducible refine blN ?_) | ((with_reducible refine blS ?_ ?_); (focus (first | omega | (simp <;> omega)))) | ((with_reducible refine blT (by assumption) ?_ ?_); (focus (first | omega | (simp <;> omega)))))
set_option maxRecDepth 100000 in
set_option maxHeartbeats 20000000 in
theorem specGen_any (d e a b : Int) (w : World) (hd : I64 d) :
    Calls Try.prog 29 #[.int .i64 d, .agg #[.int .i64 e, .int .i64 a, .int .i64 b]] w fun en w' => (∃ x y ok, en = .returned (.tuple #[.int .i64 x, .int .i64 y, .bool ok]) ∧ GenT d e a b x y ok) ∧ Below w.heap.size w w' := by
  have hgood : Hid (∀ w1, Calls Try.prog 40 #[.int .i64 d, .agg #[.int .i64 e, .int .i64 a, .int .i64 b]] w1 fun en w' => en = .returned (.bool (fnB d && idB d e a b)) ∧ Below w1.heap.size w1 w') := Lib.hid fun w1 => piGood_any d e a b w1 hd
  cases hg : fnB d && idB d e a b with
  | false =>
    have HG := Lib.hid hg
    rw [hg] at hgood
    clear hg
    go_enter Try.func29, Try.ntmps29
    go_wp2_with fail
    refine (hgood.out _).mono ?_
    rintro e1 w1 ⟨rfl, hB1⟩
    obtain ⟨hC1, hF1⟩ := bcell hB1
    have hS1 := hB1.size
    simp at hS1
    go_wp2_with fail
    refine bodyPost_ret (v := .tuple #[.int .i64 0, .int .i64 0, .bool false]) (by go_light; simp [results, Try.results29, go_sem, *]) rfl ⟨⟨0, 0, false, rfl, .inr ⟨HG.out, rfl, rfl, rfl⟩⟩, ?_⟩
    repeat (first | with_reducible exact Below.refl _ _ | with_reducible assumption | ((with_reducible refine blA ?_ ?_); (focus (first | omega | (simp <;> omega)))) | (with_reducible refine blD ?_) | (with_reducible refine blN ?_) | ((with_reducible refine blS ?_ ?_); (focus (first | omega | (simp <;> omega)))) | ((with_reducible refine blT (by assumption) ?_ ?_); (focus (first | omega | (simp <;> omega)))))
  | true =>
    have HG := Lib.hid hg
    rw [hg] at hgood
    have hid : idB d e a b = true := by simp only [Bool.and_eq_true] at hg; exact hg.2
    obtain ⟨h0, h1, h2, h3, h4, h5, h6, h7⟩ := idB_true hid
    obtain ⟨d1, d2, d3⟩ := negB_true h0
    obtain ⟨hri, hcc, hc1, hc2⟩ := ri_of hid
    have hone := Lib.hid fun w1 => coOne_any d w1 h0
    have hcl := Lib.hid fun w1 => piClass_any d e a b w1 hid
    have hform := Lib.hid fun w1 => idForm_any d e a b w1 hid
    have hopp := Lib.hid fun w1 => foOpposite_any a b (idC d a b) w1 ⟨by omega, by omega⟩
    have hva := Lib.hid fun w1 => vaAt_any a (-b) (idC d a b) d w1 ⟨h3, h4⟩ ⟨by omega, by omega⟩ ⟨by omega, by omega⟩ (by grind) d1 d2
    have HCC := Lib.hid hcc
    generalize idC d a b = c at *
    have hneg := Lib.hid h0
    clear hg hid h0 h7 hri hcc hd
    go_enter Try.func29, Try.ntmps29
    go_wp2_with fail
    refine (hgood.out _).mono ?_
    rintro e1 w1 ⟨rfl, hB1⟩
    have hb1 := (Blk.new w 34 #[.int .i64 e, .int .i64 a, .int .i64 b]).below hB1
    have hl1 : Below w.heap.size w w1 := by repeat (first | with_reducible exact Below.refl _ _ | with_reducible assumption | ((with_reducible refine blA ?_ ?_); (focus (first | omega | (simp <;> omega)))) | (with_reducible refine blD ?_) | (with_reducible refine blN ?_) | ((with_reducible refine blS ?_ ?_); (focus (first | omega | (simp <;> omega)))) | ((with_reducible refine blT (by assumption) ?_ ?_); (focus (first | omega | (simp <;> omega)))))
    clear hB1 hgood
    have cx := hb1.cell
    have lx := hb1.lt
    have HX := Lib.hid hb1
    have HB := Lib.hid hl1
    clear hb1 hl1
    go_wp2_with fail
    refine (hcl.out _).mono ?_
    rintro e2 w2 ⟨⟨p, q, r, rfl, hI, hr⟩, hB2⟩
    have HX2 := Lib.hid (HX.out.below hB2)
    have HB2 := Lib.hid (show Below w.heap.size w w2 from HB.out.trans (hB2.mono HB.out.size))
    clear HX HB hB2 cx lx hcl
    have cx := HX2.out.cell
    have lx := HX2.out.lt
    go_wp2_with fail
    refine (hone.out _).mono ?_
    rintro e3 w3 ⟨rfl, hB3⟩
    have HX3 := Lib.hid (HX2.out.below hB3)
    have HB3 := Lib.hid (show Below w.heap.size w w3 from HB2.out.trans (hB3.mono HB2.out.size))
    clear HX2 HB2 hB3 cx lx hone
    have cx := HX3.out.cell
    have lx := HX3.out.lt
    have HI := Lib.hid hI
    have HR := Lib.hid hr
    clear hI hr
    by_cases hpq : p = 1 ∧ q = d % 2 ∧ r = (d % 2 - d) / 4
    · have HREP : Hid (Rep a b c 1) := Lib.hid ((HI.out.nn 1).1 (by obtain ⟨rfl, rfl, rfl⟩ := hpq; exact one_rep))
      obtain ⟨rfl, rfl, rfl⟩ := hpq
      clear HI HR
      go_wp2_with fail
      obtain ⟨y4, ey4, KB4, KX4, KL4⟩ : ∃ y4, w3.alloc (.cells #[.int .i64 0, .int .i64 0] 62) = y4 ∧ Hid (Blk w3.heap.size 62 #[.int .i64 0, .int .i64 0] y4) ∧ Hid (Blk w.heap.size 34 #[.int .i64 e, .int .i64 a, .int .i64 b] y4) ∧ Hid (Below w.heap.size w y4) :=
        ⟨_, rfl, Lib.hid (Blk.new _ _ _), Lib.hid (HX3.out.alloc _), Lib.hid (HB3.out.alloc (by have := HB3.out.size; omega) _)⟩
      have hbz0 : w.heap.size < w3.heap.size := lx
      obtain ⟨bb, hbb⟩ : ∃ bb, w3.heap.size = bb := ⟨_, rfl⟩
      rw [hbb] at KB4 hbz0
      try rw [ey4]
      refine (hform.out _).mono ?_
      rintro e5 w5 ⟨rfl, hB5⟩
      have HX5 := Lib.hid (KX4.out.below hB5)
      have HK5 := Lib.hid (KB4.out.below hB5)
      have HB5 := Lib.hid (show Below w.heap.size w w5 from KL4.out.trans (hB5.mono KL4.out.size))
      clear KX4 KB4 KL4 hB5 ey4 cx lx hform HX3 HB3
      go_wp2_with fail
      refine (hopp.out _).mono ?_
      rintro e6 w6 ⟨rfl, hB6⟩
      have HX6 := Lib.hid (HX5.out.below hB6)
      have HK6 := Lib.hid (HK5.out.below hB6)
      have HB6 := Lib.hid (show Below w.heap.size w w6 from HB5.out.trans (hB6.mono HB5.out.size))
      clear HX5 HK5 HB5 hB6 hopp
      go_wp2_with fail
      refine (hva.out _).mono ?_
      rintro e7 w7 ⟨⟨v, l, rfl, hR7, hn7, hm7⟩, hB7⟩
      have HX7 := Lib.hid (HX6.out.below hB7)
      have HK7 := Lib.hid (HK6.out.below hB7)
      have HB7 := Lib.hid (show Below w.heap.size w w7 from HB6.out.trans (hB7.mono HB6.out.size))
      have HR7 := Lib.hid hR7
      have HM7 : Hid (l.length ≤ 1000 ∧ ∀ z, z ∈ l ↔ GenS d a b (2 * a * z.1 - b * z.2) z.2) := Lib.hid ⟨hn7, fun z => (hm7 z).trans (vp_gen h3 HCC.out z)⟩
      have h6s := HB6.out.size
      have h6b := HK6.out.lt
      clear HX6 HK6 HB6 hB7 hva hR7 hn7 hm7
      obtain ⟨la, lc, hv, -, -, hs⟩ := HR7.out.sees c2_len
      subst hv
      have HS := Lib.hid hs
      clear hs
      go_wp2_with fail
      try clear hv
      have HN0 : Hid (negB d = true) := hneg
      have hew : ∀ t : Int, Bd 200 t → wrap64 (e * t) = e * t := fun t ht => by
        obtain ⟨t1, t2⟩ := mul_bd (show Bd 10000 e from ⟨by omega, by omega⟩) ht (show (10000 : Int) * 200 ≤ 2000000 by decide)
        unfold wrap64; omega
      have HEW := Lib.hid hew
      have hw1 : wrap64 (2 * a) = 2 * a := by unfold wrap64; omega
      have hH6 : Hid (w.heap.size ≤ w6.heap.size ∧ bb < w6.heap.size) := Lib.hid ⟨h6s, h6b⟩
      clear hew hneg h6s h6b
      go_loopw [7, 31] (fun fv iv wr => ∃ (f : Bool) (k : Nat) (pu pv : Int), fv = .bool f ∧ iv = .int .i64 (k : Int) ∧ k ≤ l.length ∧ Hid (BestE (GS a b l k) e f pu pv) ∧ Hid (Blk bb 62 #[.int .i64 pu, .int .i64 pv] wr) ∧ Hid (Blk w.heap.size 34 #[.int .i64 e, .int .i64 a, .int .i64 b] wr) ∧ Hid (Rw w6.heap.size 67 2 c2 wr (.slice la l.length lc) l) ∧ Hid (Below w.heap.size w wr)) (fun _ iv _ => l.length - (intOf iv).toNat)
      case atStart =>
        exact ⟨false, 0, 0, 0, rfl, rfl, by omega, Lib.hid (BestE.zero _ _ _ _), HK7, HX7, HR7, HB7⟩
      case round =>
        clear HK7 HX7 HR7 HB7 HS
        obtain ⟨f, k, pu, pv, rfl, rfl, hk, hB, hK, hX, hR, hBl⟩ := hrel
        obtain ⟨wo, hwo⟩ : ∃ wo : World, wo = wr := ⟨_, rfl⟩
        subst hwo
        have hbz := hBl.out.size
        rcases Nat.lt_or_ge k l.length with hlt | hge
        · obtain ⟨⟨x, y⟩, hz⟩ : ∃ z, l[k]? = some z := ⟨l[k], List.getElem?_eq_getElem hlt⟩
          have HZ := Lib.hid hz
          have HLT := Lib.hid hlt
          have hk999 : k ≤ 999 := by have := HM7.out.1; omega
          obtain ⟨g1, g2, g3, g4⟩ := gen_bd HN0.out ⟨h3, h4⟩ ⟨h5, h6⟩ (show GenS d a b (2 * a * x - b * y) y from (HM7.out.2 (x, y)).1 (List.mem_of_getElem? hz))
          obtain ⟨u, hu⟩ : ∃ u, 2 * a * x - b * y = u := ⟨_, rfl⟩
          rw [hu] at g1
          have hwu := HEW.out u g1
          have hwv := HEW.out y g2
          obtain ⟨tu, htu⟩ : ∃ tu, e * u = tu := ⟨_, rfl⟩
          obtain ⟨tv, htv⟩ : ∃ tv, e * y = tv := ⟨_, rfl⟩
          have HTU : Hid (e * (2 * a * x - b * y) = tu) := Lib.hid (by rw [hu, htu])
          have HTV := Lib.hid htv
          obtain ⟨q1, q2⟩ := g3
          obtain ⟨q3, q4⟩ := g4
          have hw2 : wrap64 (2 * a * x) = 2 * a * x := by unfold wrap64; omega
          have hw3 : wrap64 (b * y) = b * y := by unfold wrap64; omega
          have hw4 : wrap64 (2 * a * x - b * y) = u := by rw [hu]; unfold wrap64; obtain ⟨z1, z2⟩ := g1; omega
          have hw4' : wrap64 u = u := by unfold wrap64; obtain ⟨z1, z2⟩ := g1; omega
          rw [htu] at hwu
          rw [htv] at hwv
          obtain ⟨a', c', he', -, -, hs⟩ := hR.out.sees c2_len
          rcases hs with h0 | ⟨g, hg1, hg2, hg3, hg4, hg5⟩
          · omega
          have hla : la = some ⟨g, 0, none⟩ := by rw [Value.slice.injEq] at he'; rw [he'.1, hg1]
          have cu : wo.cell? ⟨g, k * 2, none⟩ = some (.int .i64 x) := by have := hg4 k _ hz 0 (by omega); simpa [c2] using this
          have cv : wo.cell? ⟨g, k * 2 + 1, none⟩ = some (.int .i64 y) := by have := hg4 k _ hz 1 (by omega); simpa [c2] using this
          have cx := hX.out.cell
          have lx := hX.out.lt
          have ck := hK.out.cell
          have lk := hK.out.lt
          clear hg4 hg5 he' hg1 hz
          obtain ⟨y1, ey1, kP, kX, kK, kR, kB⟩ : ∃ y1, wo.alloc (.cells #[.int .i64 x, .int .i64 y] 67) = y1 ∧ Hid (Blk wo.heap.size 67 #[.int .i64 x, .int .i64 y] y1) ∧ Hid (Blk w.heap.size 34 #[.int .i64 e, .int .i64 a, .int .i64 b] y1) ∧ Hid (Blk bb 62 #[.int .i64 pu, .int .i64 pv] y1) ∧ Hid (Rw w6.heap.size 67 2 c2 y1 (.slice la l.length lc) l) ∧ Hid (Below w.heap.size w y1) :=
            ⟨_, rfl, Lib.hid (Blk.new _ _ _), Lib.hid (hX.out.alloc _), Lib.hid (hK.out.alloc _), Lib.hid (hR.out.alloc _), Lib.hid (hBl.out.alloc hbz _)⟩
          have hbs1 := kB.out.size
          obtain ⟨y2, ey2, jE, jX, jK, jR, jB⟩ : ∃ y2, y1.alloc (.cells #[.int .i64 tu, .int .i64 tv] 62) = y2 ∧ Hid (Blk y1.heap.size 62 #[.int .i64 tu, .int .i64 tv] y2) ∧ Hid (Blk w.heap.size 34 #[.int .i64 e, .int .i64 a, .int .i64 b] y2) ∧ Hid (Blk bb 62 #[.int .i64 pu, .int .i64 pv] y2) ∧ Hid (Rw w6.heap.size 67 2 c2 y2 (.slice la l.length lc) l) ∧ Hid (Below w.heap.size w y2) :=
            ⟨_, rfl, Lib.hid (Blk.new _ _ _), Lib.hid (kX.out.alloc _), Lib.hid (kK.out.alloc _), Lib.hid (kR.out.alloc _), Lib.hid (kB.out.alloc hbs1 _)⟩
          obtain ⟨bp, hbp⟩ : ∃ bp, wo.heap.size = bp := ⟨_, rfl⟩
          rw [hbp] at kP
          have c1x := kX.out.cell
          have l1x := kX.out.lt
          have c1p := kP.out.cell
          have l1p := kP.out.lt
          have c2e := jE.out.cell
          have l2e := jE.out.lt
          have c2k := jK.out.cell
          have l2k := jK.out.lt
          have f2k := jK.out.froz
          have hnf : Hid (f = false ∨ f = true) := Lib.hid (by cases f <;> simp)
          obtain ⟨y3, ey3, k3, z3, g3⟩ := jK.out.set2 (.int .i64 tu) (.int .i64 tv)
          have K3 := Lib.hid k3
          have X3 := Lib.hid (jX.out.grown g3 (by simp <;> omega))
          have R3 := Lib.hid (jR.out.apart g3 (.inr fun h => by have := (jR.out.lt bb h).1; have := hH6.out.2; omega))
          have B3 := Lib.hid (below_grown jB.out g3 (by omega) (by have := jB.out.size; omega))
          clear kX kP kK kR kB hbz hbs1 cx ck lk hK hX hR hBl k3 z3 g3 hnf
          cases f with
          | false =>
            go_wp2_with fail
            go_roundw
            case rel =>
              go_light
              exact ⟨true, k + 1, tu, tv, rfl, by go_num, HLT.out, Lib.hid (hB.out.take h1 HZ.out HTU.out HTV.out (.inl rfl)), K3, X3, R3, B3⟩
            case measure =>
              have := HLT.out
              simp [intOf]; omega
          | true =>
            by_cases hc1 : pu < tu
            · have hd1 : decide (tu > pu) = true := decide_eq_true hc1
              go_wp2_with fail
              go_roundw
              case rel =>
                go_light
                exact ⟨true, k + 1, tu, tv, rfl, by go_num, HLT.out, Lib.hid (hB.out.take h1 HZ.out HTU.out HTV.out (.inr (.inl hc1))), K3, X3, R3, B3⟩
              case measure =>
                have := HLT.out
                simp [intOf]; omega
            · have hd1 : decide (tu > pu) = false := decide_eq_false hc1
              by_cases hc2 : tu = pu
              · by_cases hc3 : pv < tv
                · have hd3 : decide (tv > pv) = true := decide_eq_true hc3
                  subst hc2
                  go_wp2_with fail
                  go_roundw
                  case rel =>
                    go_light
                    exact ⟨true, k + 1, tu, tv, rfl, by go_num, HLT.out, Lib.hid (hB.out.take h1 HZ.out HTU.out HTV.out (.inr (.inr ⟨rfl, hc3⟩))), K3, X3, R3, B3⟩
                  case measure =>
                    have := HLT.out
                    simp [intOf]; omega
                · have hd3 : decide (tv > pv) = false := decide_eq_false hc3
                  subst hc2
                  go_wp2_with fail
                  go_roundw
                  case rel =>
                    go_light
                    exact ⟨true, k + 1, tu, pv, rfl, by go_num, HLT.out, Lib.hid (hB.out.keep h1 HZ.out HTU.out HTV.out rfl (by omega)), jK, jX, jR, jB⟩
                  case measure =>
                    have := HLT.out
                    simp [intOf]; omega
              · have hd2 : (tu == pu) = false := by simp [hc2]
                go_wp2_with fail
                go_roundw
                case rel =>
                  go_light
                  exact ⟨true, k + 1, pu, pv, rfl, by go_num, HLT.out, Lib.hid (hB.out.keep h1 HZ.out HTU.out HTV.out rfl (by omega)), jK, jX, jR, jB⟩
                case measure =>
                  have := HLT.out
                  simp [intOf]; omega
        · obtain rfl : k = l.length := by omega
          have HFIN := Lib.hid (gen_done h3 HCC.out HM7.out.2 HREP.out hB.out)
          have ck := hK.out.cell
          have lk := hK.out.lt
          clear hR hX hB hK
          go_wp2_with fail
          go_region
          all_goals go_wp2_with fail
          all_goals refine bodyPost_ret (v := .tuple #[.int .i64 pu, .int .i64 pv, .bool true]) (by go_light; simp [results, Try.results29, go_sem, *]) rfl ⟨⟨pu, pv, true, rfl, .inl ⟨HG.out, HFIN.out⟩⟩, by first | exact hBl.out | exact hBl.out.drew⟩
    · have HNO : Hid (∀ u v, ¬ GenS d a b u v) := Lib.hid fun u v hgs => hpq (by
        have hr1 := (genS_rep h3 HCC.out).2 ⟨u, v, hgs⟩
        have hr2 := (HI.out.nn 1).2 hr1
        have hr3 := of_decide_eq_true HR.out
        exact red_one HI.out.dd (by omega) d3 HI.out.a1 (by omega) (by omega) (by omega) hr2)
      have hpq' : p = 1 → q = d % 2 → ¬ r = (d % 2 - d) / 4 := fun h1 h2 h3 => hpq ⟨h1, h2, h3⟩
      clear HI HR hpq hform hopp hva
      go_wp2_with fail
      all_goals
        refine bodyPost_ret (v := .tuple #[.int .i64 0, .int .i64 0, .bool false]) (by go_light; simp [results, Try.results29, go_sem, *]) rfl ⟨⟨0, 0, false, rfl, .inl ⟨HG.out, .inr ⟨rfl, rfl, rfl, HNO.out⟩⟩⟩, HB3.out⟩
end Go.Proofs.Ytladcjoiaoaedaa
