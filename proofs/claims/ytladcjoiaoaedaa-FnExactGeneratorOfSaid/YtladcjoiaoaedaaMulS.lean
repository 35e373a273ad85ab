/-
  IdealProduct: the reference's way, and the walk of the law.
-/
import Derived.Test.YtladcjoiaoaedaaMul
namespace Go.Proofs.Ytladcjoiaoaedaa
open Go.RowKit
attribute [local simp, local go_sem] past_cell past_frozen past_tape
theorem grown_of_below {w w' : World} (h : Below w.heap.size w w') (r : Option Nat) : w.grownBy w' r := ⟨h.os, h.tape, h.output, h.size, fun k hk _ => h.block k hk⟩
/-- The generators of an ideal of scale 1, and their products. -/
def mEl (a b : Int) (k : Nat) : Int × Int := match k with | 0 => (2 * a, 0) | _ => (-b, 1)
def flat (l : List (Int × Int)) : List Value := l.flatMap fun g => [.int .i64 g.1, .int .i64 g.2]
def mulE (d : Int) (p q : Int × Int) : Int × Int := ((p.1 * q.1 + d * p.2 * q.2).tdiv 2, (p.1 * q.2 + p.2 * q.1).tdiv 2)
theorem mulE_eq (d a b a' b' : Int) : mulE d (mEl a b 0) (mEl a' b' 0) = (2 * a * a', 0) ∧ mulE d (mEl a b 0) (mEl a' b' 1) = (-a * b', a) ∧ mulE d (mEl a b 1) (mEl a' b' 0) = (-a' * b, a') ∧ mulE d (mEl a b 1) (mEl a' b' 1) = ((b * b' + d).tdiv 2, (-(b + b')).tdiv 2) := by
  refine ⟨Prod.ext ?_ ?_, Prod.ext ?_ ?_, Prod.ext ?_ ?_, Prod.ext ?_ ?_⟩
  · exact tdiv2 (by show _ = _; simp only [mEl]; grind)
  · exact tdiv2 (by show _ = _; simp only [mEl]; grind)
  · exact tdiv2 (by show _ = _; simp only [mEl]; grind)
  · exact tdiv2 (by show _ = _; simp only [mEl]; grind)
  · exact tdiv2 (by show _ = _; simp only [mEl]; grind)
  · exact tdiv2 (by show _ = _; simp only [mEl]; grind)
  · show (-b * -b' + d * 1 * 1).tdiv 2 = (b * b' + d).tdiv 2
    congr 1; grind
  · show (-b * 1 + 1 * -b').tdiv 2 = (-(b + b')).tdiv 2
    congr 1; grind
theorem flat_next (d a b a' b' : Int) (k j : Nat) (hk : k < 2) (hj : j < 2) : flat ((mulL d a b a' b').take (2 * k + (j + 1))) = flat ((mulL d a b a' b').take (2 * k + j)) ++ [.int .i64 ((mulE d (mEl a b k) (mEl a' b' j)).1), .int .i64 ((mulE d (mEl a b k) (mEl a' b' j)).2)] := by
  obtain ⟨h1, h2, h3, h4⟩ := mulE_eq d a b a' b'
  match k, j, hk, hj with
  | 0, 0, _, _ => rw [h1]; rfl
  | 0, 1, _, _ => rw [h2]; rfl
  | 1, 0, _, _ => rw [h3]; rfl
  | 1, 1, _, _ => rw [h4]; rfl
theorem mEl_bd {a b : Int} (ha : Bd 10000 a) (hb : Bd 20000 b) (k : Nat) : Bd 20000 (mEl a b k).1 ∧ Bd 1 (mEl a b k).2 := by
  obtain ⟨a1, a2⟩ := ha
  obtain ⟨b1, b2⟩ := hb
  match k with
  | 0 => exact ⟨⟨by show _ ≤ 2 * a; omega, by show 2 * a ≤ _; omega⟩, ⟨by show _ ≤ (0 : Int); omega, by show (0 : Int) ≤ _; omega⟩⟩
  | n + 1 => exact ⟨⟨by show _ ≤ -b; omega, by show -b ≤ _; omega⟩, ⟨by show _ ≤ (1 : Int); omega, by show (1 : Int) ≤ _; omega⟩⟩
theorem flat_cells (l : List (Int × Int)) (f : Nat → Option Value) (h : ∀ j, j < 2 * l.length → f j = (flat l)[j]?) : ∀ k, k < l.length → f (k * 2) = some (.int .i64 ((l.getD k (0, 0)).1)) ∧ f (k * 2 + 1) = some (.int .i64 ((l.getD k (0, 0)).2)) := by
  induction l generalizing f with
  | nil => intro k hk; simp at hk
  | cons v l ih =>
    intro k hk
    match k, hk with
    | 0, _ => exact ⟨by rw [h 0 (by simp)]; rfl, by rw [h 1 (by simp; omega)]; rfl⟩
    | k + 1, hk =>
      have hk : k < l.length := by simpa using hk
      obtain ⟨h1, h2⟩ := ih (fun j => f (j + 2)) (fun j hj => by rw [h (j + 2) (by simp; omega)]; rfl) k hk
      exact ⟨by rw [show (k + 1) * 2 = k * 2 + 2 by omega]; exact h1, by rw [show (k + 1) * 2 + 1 = k * 2 + 1 + 2 by omega]; exact h2⟩
theorem flat_len (l : List (Int × Int)) : (flat l).length = l.length * 2 := by
  induction l with
  | nil => rfl
  | cons v l ih => simp only [flat, List.flatMap_cons, List.length_append, List.length_cons, List.length_nil] at ih ⊢; omega
theorem idMul_gen (d x y u v : Int) (w : World) (h1 : Bd 400000000 (x * u)) (h2 : Bd 2000 (d * y)) (h3 : Bd 2000 (d * y * v)) (h4 : Bd 20000 (x * v)) (h5 : Bd 20000 (y * u)) :
    Calls Try.prog 76 #[.int .i64 d, .agg #[.int .i64 x, .int .i64 y], .agg #[.int .i64 u, .int .i64 v]] w fun en w' => en = .returned (.agg #[.int .i64 ((mulE d (x, y) (u, v)).1), .int .i64 ((mulE d (x, y) (u, v)).2)]) ∧ Below w.heap.size w w' := by
  obtain ⟨a1, a2⟩ := h1
  obtain ⟨b1, b2⟩ := h2
  obtain ⟨c1, c2⟩ := h3
  obtain ⟨d1, d2⟩ := h4
  obtain ⟨e1, e2⟩ := h5
  go_enter Try.func76, Try.ntmps76
  go_wp2
  (refine bodyPost_ret (v := .agg #[.int .i64 ((x * u + d * y * v).tdiv 2), .int .i64 ((x * v + y * u).tdiv 2)]) ?_ rfl ⟨?_, ?_⟩; (focus (go_light; first | (simp [results, Try.results76, go_sem, *]; done) | (simp (disch := first | omega | (simp <;> omega) | (refine isSome_of ?_ ?_; (focus ((repeat (first | ((with_reducible refine (cell_alloc_old _ _ _ _ ?_).trans ?_); (focus (first | omega | (simp <;> omega)))) | ((with_reducible refine (bG (by assumption) ?_).trans ?_); (focus (first | omega | (simp <;> omega)))))); exact rfl)); simp [go_sem]) | fail) [results, Try.results76, go_sem, *]; done))); (focus (rfl)); repeat (first | with_reducible exact Below.refl _ _ | with_reducible assumption | ((with_reducible refine blA ?_ ?_); (focus (first | omega | (simp <;> omega)))) | (with_reducible refine blD ?_) | (with_reducible refine blN ?_) | ((with_reducible refine blS ?_ ?_); (focus (first | omega | (simp <;> omega)))) | ((with_reducible refine blT (by assumption) ?_ ?_); (focus (first | omega | (simp <;> omega))))))
theorem idB_one {d e a b : Int} (h : idB d e a b = true) : idB d 1 a b = true := by
  obtain ⟨h0, h1, h2, h3, h4, h5, h6, h7⟩ := idB_true h
  exact decide_eq_true ⟨h0, by omega, by omega, h3, h4, h5, h6, h7⟩
theorem idBasis_one (d a b : Int) (w : World) (h : idB d 1 a b = true) :
    Calls Try.prog 75 #[.agg #[.int .i64 1, .int .i64 a, .int .i64 b]] w fun en w' => ∃ w1, Below w.heap.size w w1 ∧ en = .returned (.slice (some ⟨w1.heap.size, 0, none⟩) 2 2) ∧ w1.alloc (.cells #[.int .i64 (2 * a), .int .i64 0, .int .i64 (-b), .int .i64 1] 62) = w' := by
  refine (idBasis_any d 1 a b w h).mono ?_
  rintro en w' ⟨w1, h1, h2, h3⟩
  rw [show 2 * 1 * a = 2 * a by omega, show -1 * b = -b by omega] at h3
  exact ⟨w1, h1, h2, h3⟩
theorem mEl_cells {w : World} {B : Nat} {a b : Int} {T : TypeId} {fr : Nat × Nat} (h : w.heap[B]? = some (.cells #[.int .i64 (2 * a), .int .i64 0, .int .i64 (-b), .int .i64 1] T fr)) (k : Nat) (hk : k < 2) : w.cell? ⟨B, k * 2, none⟩ = some (.int .i64 ((mEl a b k).1)) ∧ w.cell? ⟨B, k * 2 + 1, none⟩ = some (.int .i64 ((mEl a b k).2)) := by
  rw [cell_of_row w B _ _ _ _ h, cell_of_row w B _ _ _ _ h]
  match k, hk with
  | 0, _ => exact ⟨rfl, rfl⟩
  | 1, _ => exact ⟨rfl, rfl⟩
set_option maxRecDepth 100000 in
set_option maxHeartbeats 4000000 in
theorem idProduct_any (d e a b e' a' b' : Int) (w : World) (h : idB d e a b = true) (h' : idB d e' a' b' = true) :
    Calls Try.prog 45 #[.int .i64 d, .agg #[.int .i64 e, .int .i64 a, .int .i64 b], .agg #[.int .i64 e', .int .i64 a', .int .i64 b']] w fun en w' => en = .returned (.agg #[.int .i64 (lE (mulL d a b a' b') * (e * e')), .int .i64 (lA (mulL d a b a' b')), .int .i64 (lB (mulL d a b a' b'))]) ∧ Below w.heap.size w w' := by
  obtain ⟨hL, hE⟩ := mul_lf h h'
  obtain ⟨_, _, _, _, _, _, _, _, _, a0, a0', b0, b1, b0', b1', a1, a1', d0, d1⟩ := mul_facts h h'
  obtain ⟨_, e0, e1, _⟩ := idB_true h
  obtain ⟨_, e0', e1', _⟩ := idB_true h'
  have hE0 : 0 ≤ lE (mulL d a b a' b') := by unfold lE; omega
  obtain ⟨x1, x2⟩ := mul_bd (show Bd 10000 e from ⟨by omega, by omega⟩) (show Bd 10000 e' from ⟨by omega, by omega⟩) (show (10000 : Int) * 10000 ≤ 100000000 by decide)
  obtain ⟨x3, x4⟩ := mul_bd (show Bd 20000 (lE (mulL d a b a' b')) from ⟨by omega, by omega⟩) (show Bd 100000000 (e * e') from ⟨by omega, by omega⟩) (show (20000 : Int) * 100000000 ≤ 2000000000000 by decide)
  have q1 := Lib.hid (idB_one h)
  have q2 := Lib.hid (idB_one h')
  have hb1 := Lib.hid (mEl_bd (a := a) (b := b) ⟨by omega, by omega⟩ ⟨by omega, by omega⟩)
  have hb2 := Lib.hid (mEl_bd (a := a') (b := b') ⟨by omega, by omega⟩ ⟨by omega, by omega⟩)
  obtain ⟨i, hi1, hiz, hisz, hiby⟩ := info_parts (P := Try.prog) (e := 62) (z := .agg #[.int .i64 0, .int .i64 0]) (size := 2) (bytes := 16) (by kernel_rfl)
  have HI := Lib.hid (And.intro hi1 (And.intro hiz (And.intro hisz hiby)))
  clear h h' hi1 hiz hisz hiby
  go_enter Try.func45, Try.ntmps45
  go_wp2_with fail
  refine (idBasis_one d a b _ q1.out).mono ?_
  rintro ex wb ⟨w3, hB3, rfl, rfl⟩
  have hz3 := hB3.size
  simp at hz3
  have hy : ∀ o, w3.cell? ⟨w.heap.size + 1, o, none⟩ = (#[.int .i64 e', .int .i64 a', .int .i64 b'] : Array Value)[o]? := by (intro o; (repeat (first | ((with_reducible refine (cell_alloc_old _ _ _ _ ?_).trans ?_); (focus (first | omega | (simp <;> omega)))) | ((with_reducible refine (bC (by assumption) ?_).trans ?_); (focus (first | omega | (simp <;> omega)))) | ((with_reducible refine (bG (by assumption) ?_).trans ?_); (focus (first | omega | (simp <;> omega)))))); simp [go_sem])
  have hx : ∀ o, w3.cell? ⟨w.heap.size, o, none⟩ = (#[.int .i64 e, .int .i64 a, .int .i64 b] : Array Value)[o]? := by (intro o; (repeat (first | ((with_reducible refine (cell_alloc_old _ _ _ _ ?_).trans ?_); (focus (first | omega | (simp <;> omega)))) | ((with_reducible refine (bC (by assumption) ?_).trans ?_); (focus (first | omega | (simp <;> omega)))) | ((with_reducible refine (bG (by assumption) ?_).trans ?_); (focus (first | omega | (simp <;> omega)))))); simp [go_sem])
  have hr : ∀ o, w3.cell? ⟨w.heap.size + 1 + 1, o, none⟩ = (#[.int .i64 0, .int .i64 0, .int .i64 0] : Array Value)[o]? := by (intro o; (repeat (first | ((with_reducible refine (cell_alloc_old _ _ _ _ ?_).trans ?_); (focus (first | omega | (simp <;> omega)))) | ((with_reducible refine (bC (by assumption) ?_).trans ?_); (focus (first | omega | (simp <;> omega)))) | ((with_reducible refine (bG (by assumption) ?_).trans ?_); (focus (first | omega | (simp <;> omega)))))); simp [go_sem])
  have hrf : ∀ o, w3.frozen? ⟨w.heap.size + 1 + 1, o, none⟩ = false := by (intro o; (repeat (first | ((with_reducible refine (frozen_alloc_old _ _ _ _ ?_).trans ?_); (focus (first | omega | (simp <;> omega)))) | ((with_reducible refine (fG (by assumption) ?_).trans ?_); (focus (first | omega | (simp <;> omega)))))); simp [go_sem])
  have hW3 : Hid (Below w.heap.size w w3) := by show Below _ _ _; repeat (first | with_reducible exact Below.refl _ _ | with_reducible assumption | ((with_reducible refine blA ?_ ?_); (focus (first | omega | (simp <;> omega)))) | (with_reducible refine blD ?_) | (with_reducible refine blN ?_) | ((with_reducible refine blS ?_ ?_); (focus (first | omega | (simp <;> omega)))) | ((with_reducible refine blT (by assumption) ?_ ?_); (focus (first | omega | (simp <;> omega)))))
  have HX := Lib.hid hx
  have HR := Lib.hid hr
  have HRF := Lib.hid hrf
  clear hB3 hx hr hrf
  go_wp2
  go_loopw [7, 20] (fun acc i wr => ∃ k : Nat, k ≤ 2 ∧ i = .int .i64 (k : Int) ∧ Hid (wr.ownsRow (w3.heap.size + 1) 62 2 acc (2 * k) (flat ((mulL d a b a' b').take (2 * k)))) ∧ Hid (Below (w3.heap.size + 1) (w3.alloc (.cells #[.int .i64 (2 * a), .int .i64 0, .int .i64 (-b), .int .i64 1] 62)) wr)) (fun _ i _ => 2 - (intOf i).toNat)
  case atStart => exact ⟨0, by omega, rfl, World.ownsRow_nil _ _ _ _, Below.refl _ _⟩
  case round =>
    obtain ⟨k, hk, rfl, hown, hBr⟩ := hrel
    obtain ⟨wo, rfl⟩ : ∃ wo : World, wo = wr := ⟨_, rfl⟩
    have hzr := hBr.out.size
    simp at hzr
    by_cases hk2 : k < 2
    · obtain ⟨hc1, hc2⟩ := mEl_cells (w := wo) (B := w3.heap.size) (a := a) (b := b) (T := 62) (fr := (0, 0)) (by rw [hBr.out.block _ (by simp), heap_alloc_new]) k hk2
      have hyr : ∀ o, wo.cell? ⟨w.heap.size + 1, o, none⟩ = (#[.int .i64 e', .int .i64 a', .int .i64 b'] : Array Value)[o]? := fun o => by rw [bG hBr.out (by omega), cell_alloc_old _ _ _ _ (by omega), hy]
      have l1 : w.heap.size + 1 < wo.heap.size := by omega
      have l2 : ¬ w.heap.size + 1 = wo.heap.size := by omega
      go_wp2_with fail
      refine (idBasis_one d a' b' _ q2.out).mono ?_
      rintro ex wb2 ⟨w4, hB4, rfl, rfl⟩
      have hz4 := hB4.size
      simp at hz4
      have hP : Hid (∀ o, w4.cell? ⟨wo.heap.size, o, none⟩ = (#[.int .i64 ((mEl a b k).1), .int .i64 ((mEl a b k).2)] : Array Value)[o]?) := by
        show ∀ o, _ = _
        intro o; rw [bG hB4 (by simp)]; simp [go_sem]
      have hBB : Below wo.heap.size wo (w4.alloc (.cells #[.int .i64 (2 * a'), .int .i64 0, .int .i64 (-b'), .int .i64 1] 62)) := by repeat (first | with_reducible exact Below.refl _ _ | with_reducible assumption | ((with_reducible refine blA ?_ ?_); (focus (first | omega | (simp <;> omega)))) | (with_reducible refine blD ?_) | (with_reducible refine blN ?_) | ((with_reducible refine blS ?_ ?_); (focus (first | omega | (simp <;> omega)))) | ((with_reducible refine blT (by assumption) ?_ ?_); (focus (first | omega | (simp <;> omega)))))
      have HBB := Lib.hid hBB
      clear hB4 hBB
      go_wp2
      go_loopw [7, 31] (fun acc j wr => ∃ n : Nat, n ≤ 2 ∧ j = .int .i64 (n : Int) ∧ Hid (wr.ownsRow (w3.heap.size + 1) 62 2 acc (2 * k + n) (flat ((mulL d a b a' b').take (2 * k + n)))) ∧ Hid (∀ g, acc.ownBlock = some g → g ≠ wo.heap.size ∧ g ≠ w4.heap.size) ∧ Hid (Below (w3.heap.size + 1) (w3.alloc (.cells #[.int .i64 (2 * a), .int .i64 0, .int .i64 (-b), .int .i64 1] 62)) wr) ∧ Hid (∀ o, wr.cell? ⟨wo.heap.size, o, none⟩ = (#[.int .i64 ((mEl a b k).1), .int .i64 ((mEl a b k).2)] : Array Value)[o]?) ∧ Hid (wr.heap[w4.heap.size]? = some (.cells #[.int .i64 (2 * a'), .int .i64 0, .int .i64 (-b'), .int .i64 1] 62 (0, 0))) ∧ w4.heap.size < wr.heap.size) (fun _ i _ => 2 - (intOf i).toNat)
      case atStart =>
        refine ⟨0, by omega, rfl, hown.out.kept (grown_of_below HBB.out none) (Classical.em _), ?_, ?_, ?_, heap_alloc_new _ _, by simp⟩
        · show ∀ g, _ → _
          intro g hg
          have := hown.out.lt g hg
          exact ⟨by omega, by omega⟩
        · show Below _ _ _
          exact (hBr.out).trans ((HBB.out).mono (by omega))
        · show ∀ o, _ = _
          intro o
          rw [cell_alloc_old _ _ _ _ (by omega), hP.out]
      case round =>
        obtain ⟨n, hn, rfl, hown2, hap, hB2, hP2, hQ2, hz2⟩ := hrel
        by_cases hn2 : n < 2
        · obtain ⟨hc3, hc4⟩ := mEl_cells hQ2.out n hn2
          have hPr := hP2.out
          have l3 : wo.heap.size < wr.heap.size := by omega
          have l4 : ¬ wo.heap.size = wr.heap.size := by omega
          obtain ⟨⟨k1, k2⟩, ⟨k3, k4⟩⟩ := hb1.out k
          obtain ⟨⟨k5, k6⟩, ⟨k7, k8⟩⟩ := hb2.out n
          have y1 := mul_bd (show Bd 20000 (mEl a b k).1 from ⟨k1, k2⟩) (show Bd 20000 (mEl a' b' n).1 from ⟨k5, k6⟩) (show (20000 : Int) * 20000 ≤ 400000000 by decide)
          have y2 := mul_bd (show Bd 2000 d from ⟨by omega, by omega⟩) (show Bd 1 (mEl a b k).2 from ⟨k3, k4⟩) (show (2000 : Int) * 1 ≤ 2000 by decide)
          have y3 := mul_bd y2 (show Bd 1 (mEl a' b' n).2 from ⟨k7, k8⟩) (show (2000 : Int) * 1 ≤ 2000 by decide)
          have y4 := mul_bd (show Bd 20000 (mEl a b k).1 from ⟨k1, k2⟩) (show Bd 1 (mEl a' b' n).2 from ⟨k7, k8⟩) (show (20000 : Int) * 1 ≤ 20000 by decide)
          have y5 := mul_bd (show Bd 1 (mEl a b k).2 from ⟨k3, k4⟩) (show Bd 20000 (mEl a' b' n).1 from ⟨k5, k6⟩) (show (1 : Int) * 20000 ≤ 20000 by decide)
          have hnx := Lib.hid (flat_next d a b a' b' k n hk2 hn2)
          go_wp2_with fail
          refine (idMul_gen d _ _ _ _ _ y1 y2 y3 y4 y5).mono ?_
          rintro ex wm ⟨rfl, hBm⟩
          have hzm := hBm.size
          simp at hzm
          have hBm2 : Below wr.heap.size wr wm := by repeat (first | with_reducible exact Below.refl _ _ | with_reducible assumption | ((with_reducible refine blA ?_ ?_); (focus (first | omega | (simp <;> omega)))) | (with_reducible refine blD ?_) | (with_reducible refine blN ?_) | ((with_reducible refine blS ?_ ?_); (focus (first | omega | (simp <;> omega)))) | ((with_reducible refine blT (by assumption) ?_ ?_); (focus (first | omega | (simp <;> omega)))))
          have hown3 := hown2.out.kept (grown_of_below hBm2 none) (Classical.em _)
          have HM := Lib.hid hBm2
          clear hBm hBm2
          go_wp2_with (at_builtin; refine wpList_append_lies _ rfl _ _ _ rfl (w3.heap.size + 1) 62 i (.agg #[.int .i64 0, .int .i64 0]) 2 16 (by kernel_rfl) HI.out.1 HI.out.2.1 HI.out.2.2.1 HI.out.2.2.2 rfl (by omega) _ (2 * k + n) _ rfl (hown3.alloc _) ⟨wm.heap.size, 0, none⟩ 1 1 [.int .i64 ((mulE d (mEl a b k) (mEl a' b' n)).1), .int .i64 ((mulE d (mEl a b k) (mEl a' b' n)).2)] rfl rfl ?c1 ?c2 ?c3 ?c4 ?c5 ?c6 _ rfl ?_)
          case c1 => exact fun j u hu => World.news_of_block (heap_alloc_new _ _) j u hu
          case c2 =>
            intro u hu
            simp at hu
            rcases hu with rfl | rfl <;> rfl
          case c3 => omega
          case c4 => unfold maxLen; omega
          case c5 => omega
          case c6 => simp; omega
          intro g cap wz hown4 hgrow hat hlt
          go_wp2
          go_roundw
          case rel =>
            go_light
            refine ⟨n + 1, by omega, by go_num, ?_, ?_, ?_, ?_, ?_, ?_⟩
            · show World.ownsRow _ _ _ _ _ _ _
              rw [hnx.out]
              exact hown4
            · show ∀ g', _ → _
              intro g' hg'
              have e : g' = g := by simpa [Value.ownBlock] using hg'.symm
              subst e
              rcases hat with hat | hat
              · exact hap.out _ hat
              · subst hat
                simp
                omega
            · show Below _ _ _
              refine Below.grown ((hB2.out.trans (HM.out.mono (by omega))).alloc (by omega) _) hgrow (by simp; omega) (fun k hk => (hown3.lt k hk).1)
            · show ∀ o, _ = _
              intro o
              rw [hgrow.cell_far _ (by simp; omega) (fun hk => (hap.out _ hk.symm).1 rfl), cell_alloc_old _ _ _ _ (by omega), bG HM.out (by omega), hP2.out]
            · show _ = _
              rw [hgrow.block _ (by simp; omega) (fun hk => (hap.out _ hk.symm).2 rfl), heap_alloc_old _ _ (by omega), HM.out.block _ (by omega), hQ2.out]
            · have := hgrow.size
              simp at this
              omega
          case measure => simp [intOf]; omega
        · have hn' : n = 2 := by omega
          subst hn'
          go_wp2
          go_roundw
          case rel =>
            go_light
            exact ⟨k + 1, by omega, by go_num, hown2.out, hB2.out⟩
          case measure => simp [intOf]; omega
    · have hk' : k = 2 := by omega
      subst hk'
      obtain ⟨g, cap, rfl, hge, hgl⟩ := hown.out.form (by omega)
      have hcells := flat_cells (mulL d a b a' b') (fun j => wo.cell? ⟨g, j, none⟩) (fun j hj => by
        have hj : j < 8 := hj
        show wo.cell? _ = _
        rw [hown.out.cellAt j (by omega)]
        rfl)
      have HC := Lib.hid hcells
      clear hcells
      rw [Int.mul_comm] at x3 x4
      go_wp2_with fail
      refine (idSpanL hL g cap _ hgl HC.out).mono ?_
      rintro ex wa ⟨rfl, hBa⟩
      have hza := hBa.size
      have hBr' : Below (w3.heap.size + 1) (w3.alloc (.cells #[.int .i64 (2 * a), .int .i64 0, .int .i64 (-b), .int .i64 1] 62)) wa := hBr.out.trans (hBa.mono (by omega))
      have hya : ∀ o, wa.cell? ⟨w.heap.size + 1, o, none⟩ = (#[.int .i64 e', .int .i64 a', .int .i64 b'] : Array Value)[o]? := fun o => by rw [bG hBr' (by omega), cell_alloc_old _ _ _ _ (by omega), hy]
      have hxa : ∀ o, wa.cell? ⟨w.heap.size, o, none⟩ = (#[.int .i64 e, .int .i64 a, .int .i64 b] : Array Value)[o]? := fun o => by rw [bG hBr' (by omega), cell_alloc_old _ _ _ _ (by omega), HX.out]
      have hra : ∀ o, wa.cell? ⟨w.heap.size + 1 + 1, o, none⟩ = (#[.int .i64 0, .int .i64 0, .int .i64 0] : Array Value)[o]? := fun o => by rw [bG hBr' (by omega), cell_alloc_old _ _ _ _ (by omega), HR.out]
      have hrfa : ∀ o, wa.frozen? ⟨w.heap.size + 1 + 1, o, none⟩ = false := fun o => by rw [fG hBr' (by omega), frozen_alloc_old _ _ _ _ (by omega), HRF.out]
      have hBW : Below w.heap.size w wa := by
        have h1 := hW3.out
        repeat (first | with_reducible exact Below.refl _ _ | with_reducible assumption | ((with_reducible refine blA ?_ ?_); (focus (first | omega | (simp <;> omega)))) | (with_reducible refine blD ?_) | (with_reducible refine blN ?_) | ((with_reducible refine blS ?_ ?_); (focus (first | omega | (simp <;> omega)))) | ((with_reducible refine blT (by assumption) ?_ ?_); (focus (first | omega | (simp <;> omega)))))
      have l1 : w.heap.size < wa.heap.size := by omega
      have l2 : w.heap.size + 1 < wa.heap.size := by omega
      have l3 : w.heap.size + 1 + 1 < wa.heap.size := by omega
      have n1 : ¬ w.heap.size = wa.heap.size := by omega
      have n2 : ¬ w.heap.size + 1 = wa.heap.size := by omega
      have n3 : ¬ w.heap.size + 1 + 1 = wa.heap.size := by omega
      clear hBr' hBa
      go_wp2
      refine bodyPost_ret (v := .agg #[.int .i64 (e * e' * lE (mulL d a b a' b')), .int .i64 (lA (mulL d a b a' b')), .int .i64 (lB (mulL d a b a' b'))]) (by go_light; (try clear hC14); (try clear hF14); (try clear hB14); (try clear hC13); (try clear hF13); (try clear hB13); (try clear hC12); (try clear hF12); (try clear hB12); (try clear hC11); (try clear hF11); (try clear hB11); (try clear hC10); (try clear hF10); (try clear hB10); (try clear hC9); (try clear hF9); (try clear hB9); (try clear hC8); (try clear hF8); (try clear hB8); (try clear hC7); (try clear hF7); (try clear hB7); (try clear hC6); (try clear hF6); (try clear hB6); (try clear hC5); (try clear hF5); (try clear hB5); (try clear hC4); (try clear hF4); (try clear hB4); (try clear hC3); (try clear hF3); (try clear hB3); (try clear hC2); (try clear hF2); (try clear hB2); (try clear hC1); (try clear hF1); (try clear hB1); simp [results, Try.results45, go_sem, hxa, hya, hra, n1, n2, n3, l1, l2, l3]) rfl ⟨by go_light; rw [Int.mul_comm], ?_⟩
      repeat (first | with_reducible exact Below.refl _ _ | with_reducible assumption | ((with_reducible refine blA ?_ ?_); (focus (first | omega | (simp <;> omega)))) | (with_reducible refine blD ?_) | (with_reducible refine blN ?_) | ((with_reducible refine blS ?_ ?_); (focus (first | omega | (simp <;> omega)))) | ((with_reducible refine blT (by assumption) ?_ ?_); (focus (first | omega | (simp <;> omega)))))
end Go.Proofs.Ytladcjoiaoaedaa
