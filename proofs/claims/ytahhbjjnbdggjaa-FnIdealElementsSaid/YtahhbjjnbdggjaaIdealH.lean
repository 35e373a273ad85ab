/-
  Elements of ideals, and invertible ideals.
-/
import Derived.Test.YtahhbjjnbdggjaaIdeal
import Derived.Test.YtahhbjjnbdggjaaCont
namespace Go.Proofs.Ytahhbjjnbdggjaa
open Go.RowKit
attribute [local simp, local go_sem] past_cell past_frozen past_tape
/-- An element, for a discriminant. -/
def elB (d u v : Int) : Bool := decide ((numB u = true ∧ numB v = true) ∧ (u - d * v).tmod 2 = 0)
theorem elB_bd {d u v : Int} (h : elB d u v = true) : Bd 1000000 u ∧ Bd 1000000 v := by
  have h := of_decide_eq_true h
  exact ⟨numB_bd h.1.1, numB_bd h.1.2⟩
theorem dv_bd {d v : Int} (hd : negB d = true) (hv : numB v = true) : Bd 2000000000 (d * v) := by
  obtain ⟨d1, d2, d3⟩ := negB_true hd
  exact mul_bd (show Bd 2000 d from ⟨by omega, by omega⟩) (numB_bd hv) (by decide)
theorem isElement_any (d u v : Int) (w : World) (hd : negB d = true) :
    Calls Try.prog 38 #[.int .i64 d, .int .i64 u, .int .i64 v] w fun en w' => en = .returned (.bool (elB d u v)) ∧ Below w.heap.size w w' := by
  by_cases c : numB u = true ∧ numB v = true
  · have hall : [u, v].all numB = true := by simp [c]
    obtain ⟨m1, m2⟩ := dv_bd hd c.2
    obtain ⟨u1, u2⟩ := numB_bd c.1
    have hs : Hid (elB d u v = decide ((u - d * v).tmod 2 = 0)) := by show _ = _; simp [elB, c]
    clear c
    go_enter Try.func38, Try.ntmps38
    go_wp2_with fail
    refine (areNumbers_any [u, v] _ _ (by simp) ?hc).mono ?_
    case hc => intro i hi; match i, hi with | 0, _ => simp [go_sem] | 1, _ => simp [go_sem]
    rintro e2 w2 ⟨rfl, rfl⟩
    go_wp2
    go_ret
    refine ⟨ret_bool (by go_light; rw [hs.out]; rw [Bool.eq_iff_iff]; simp), ?_⟩
    repeat (first | with_reducible exact Below.refl _ _ | with_reducible assumption | ((with_reducible refine blA ?_ ?_); (focus (first | omega | (simp <;> omega)))) | (with_reducible refine blD ?_) | (with_reducible refine blN ?_) | ((with_reducible refine blS ?_ ?_); (focus (first | omega | (simp <;> omega)))) | ((with_reducible refine blT (by assumption) ?_ ?_); (focus (first | omega | (simp <;> omega)))))
  · have hall : [u, v].all numB = false := by
      rw [List.all_eq_false]
      by_cases c1 : numB u = true
      · exact ⟨v, by simp, fun h => c ⟨c1, h⟩⟩
      · exact ⟨u, by simp, c1⟩
    have hs : Hid (elB d u v = false) := by show _ = _; simp only [elB]; exact decide_eq_false fun h => c h.1
    clear c
    go_enter Try.func38, Try.ntmps38
    go_wp2_with fail
    refine (areNumbers_any [u, v] _ _ (by simp) ?hc).mono ?_
    case hc => intro i hi; match i, hi with | 0, _ => simp [go_sem] | 1, _ => simp [go_sem]
    rintro e2 w2 ⟨rfl, rfl⟩
    go_wp2
    go_ret
    refine ⟨ret_bool (by go_light; rw [hs.out]), ?_⟩
    repeat (first | with_reducible exact Below.refl _ _ | with_reducible assumption | ((with_reducible refine blA ?_ ?_); (focus (first | omega | (simp <;> omega)))) | (with_reducible refine blD ?_) | (with_reducible refine blN ?_) | ((with_reducible refine blS ?_ ?_); (focus (first | omega | (simp <;> omega)))) | ((with_reducible refine blT (by assumption) ?_ ?_); (focus (first | omega | (simp <;> omega)))))
theorem idPair_any (d u v : Int) (w : World) (hd : negB d = true) :
    Calls Try.prog 36 #[.int .i64 d, .int .i64 u, .int .i64 v] w fun en w' => en = .returned (.bool (elB d u v)) ∧ w = w' := by
  obtain ⟨d1, d2, d3⟩ := negB_true hd
  have hd' : I64 d := ⟨by omega, by omega⟩
  by_cases c1 : numB u = true
  · by_cases c2 : numB v = true
    · obtain ⟨m1, m2⟩ := dv_bd hd c2
      obtain ⟨u1, u2⟩ := numB_bd c1
      have hs : Hid (elB d u v = decide ((u - d * v).tmod 2 = 0)) := by show _ = _; simp [elB, c1, c2]
      go_enter Try.func36, Try.ntmps36
      go_wp2_with (first | (go_at_call 62; refine (reDisc_any _ _ hd').mono ?_; rintro e w' ⟨rfl, rfl⟩) | (go_at_call 64; refine (nuGood_any _ _).mono ?_; rintro e w' ⟨rfl, rfl⟩))
      go_ret
      refine ⟨ret_bool (by go_light; rw [hs.out]; rw [Bool.eq_iff_iff]; simp), rfl⟩
    · have hs : Hid (elB d u v = false) := by show _ = _; simp [elB, c2]
      go_enter Try.func36, Try.ntmps36
      go_wp2_with (first | (go_at_call 62; refine (reDisc_any _ _ hd').mono ?_; rintro e w' ⟨rfl, rfl⟩) | (go_at_call 64; refine (nuGood_any _ _).mono ?_; rintro e w' ⟨rfl, rfl⟩))
      go_ret
      refine ⟨ret_bool (by go_light; rw [hs.out]), rfl⟩
  · have hs : Hid (elB d u v = false) := by show _ = _; simp [elB, c1]
    go_enter Try.func36, Try.ntmps36
    go_wp2_with (first | (go_at_call 62; refine (reDisc_any _ _ hd').mono ?_; rintro e w' ⟨rfl, rfl⟩) | (go_at_call 64; refine (nuGood_any _ _).mono ?_; rintro e w' ⟨rfl, rfl⟩))
    go_ret
    refine ⟨ret_bool (by go_light; rw [hs.out]), rfl⟩
/-- An element is in an ideal. -/
def ihB (e a b u v : Int) : Bool := decide (u.tmod e = 0 ∧ v.tmod e = 0 ∧ (u.tdiv e + v.tdiv e * b).tmod (2 * a) = 0)
theorem ih_eq {e a b u v : Int} (he : 1 ≤ e) (hv : v.tmod e = 0) : ihB e a b u v = decide ((u + v * b).tmod (2 * e * a) = 0) := by
  obtain ⟨v', rfl⟩ := Int.dvd_of_tmod_eq_zero hv
  unfold ihB
  rw [Int.mul_tdiv_cancel_left _ (by omega)]
  rw [decide_eq_decide]
  constructor
  · rintro ⟨h1, _, h3⟩
    obtain ⟨u', rfl⟩ := Int.dvd_of_tmod_eq_zero h1
    rw [Int.mul_tdiv_cancel_left _ (by omega)] at h3
    obtain ⟨t, ht⟩ := Int.dvd_of_tmod_eq_zero h3
    refine Int.tmod_eq_zero_of_dvd ⟨t, ?_⟩
    grind
  · intro h
    obtain ⟨t, ht⟩ := Int.dvd_of_tmod_eq_zero h
    have hu : u = e * (2 * a * t - v' * b) := by grind
    subst hu
    refine ⟨Int.tmod_eq_zero_of_dvd (Int.dvd_mul_right _ _), hv, ?_⟩
    rw [Int.mul_tdiv_cancel_left _ (by omega)]
    refine Int.tmod_eq_zero_of_dvd ⟨t, ?_⟩
    grind
def G9 (n : Int) : Prop := -1000000000 ≤ n ∧ n ≤ 1000000000
theorem ih_facts {e b u v : Int} (hu : G9 u) (hv : G9 v) (b1 : 0 ≤ b) (b2 : b ≤ 20000) : G9 (u.tdiv e) ∧ G9 (v.tdiv e) ∧ Bd 20000000000000 (v.tdiv e * b) ∧ Bd 20000000000000 (v * b) := by
  have h1 := tdiv_bd e (show Bd 1000000000 u from hu)
  have h2 := tdiv_bd e (show Bd 1000000000 v from hv)
  exact ⟨h1, h2, mul_bd h2 (show Bd 20000 b from ⟨by omega, by omega⟩) (by decide), mul_bd (show Bd 1000000000 v from hv) (show Bd 20000 b from ⟨by omega, by omega⟩) (by decide)⟩
set_option maxHeartbeats 1000000 in
theorem ihas_any (d e a b u v : Int) (w : World) (h : idB d e a b = true) (hu : G9 u) (hv : G9 v) :
    Calls Try.prog 39 #[.agg #[.int .i64 e, .int .i64 a, .int .i64 b], .int .i64 u, .int .i64 v] w fun en w' => en = .returned (.bool (ihB e a b u v)) ∧ Below w.heap.size w w' := by
  obtain ⟨h0, h1, h2, h3, h4, h5, h6, h7⟩ := idB_true h
  obtain ⟨⟨f1, f2⟩, ⟨f3, f4⟩, ⟨f5, f6⟩, _⟩ := ih_facts (e := e) hu hv h5 (by omega)
  clear h h7
  by_cases c1 : u.tmod e = 0
  · have k1 : (u.tmod e == 0) = true := by simp [c1]
    have C1 := Lib.hid c1
    clear c1
    by_cases c2 : v.tmod e = 0
    · have k2 : (v.tmod e == 0) = true := by simp [c2]
      have C2 := Lib.hid c2
      clear c2
      have hs : Hid (ihB e a b u v = ((u.tdiv e + v.tdiv e * b).tmod (2 * a) == 0)) := by
        show _ = _
        rw [Bool.eq_iff_iff]
        simp [ihB, C1.out, C2.out]
      go_enter Try.func39, Try.ntmps39
      go_wp2_with fail
      go_quiet (fail)
      go_wp2
      go_ret
      refine ⟨ret_bool (by go_light; rw [hs.out]), ?_⟩
      repeat (first | with_reducible exact Below.refl _ _ | with_reducible assumption | ((with_reducible refine blA ?_ ?_); (focus (first | omega | (simp <;> omega)))) | (with_reducible refine blD ?_) | (with_reducible refine blN ?_) | ((with_reducible refine blS ?_ ?_); (focus (first | omega | (simp <;> omega)))) | ((with_reducible refine blT (by assumption) ?_ ?_); (focus (first | omega | (simp <;> omega)))))
    · have k2 : (v.tmod e == 0) = false := by simp [c2]
      have hs : Hid (ihB e a b u v = false) := by show _ = _; simp [ihB, c2]
      clear c2
      go_enter Try.func39, Try.ntmps39
      go_wp2_with fail
      go_quiet (fail)
      go_wp2
      go_ret
      refine ⟨ret_bool (by go_light; rw [hs.out]), ?_⟩
      repeat (first | with_reducible exact Below.refl _ _ | with_reducible assumption | ((with_reducible refine blA ?_ ?_); (focus (first | omega | (simp <;> omega)))) | (with_reducible refine blD ?_) | (with_reducible refine blN ?_) | ((with_reducible refine blS ?_ ?_); (focus (first | omega | (simp <;> omega)))) | ((with_reducible refine blT (by assumption) ?_ ?_); (focus (first | omega | (simp <;> omega)))))
  · have k1 : (u.tmod e == 0) = false := by simp [c1]
    have hs : Hid (ihB e a b u v = false) := by show _ = _; simp [ihB, c1]
    clear c1
    go_enter Try.func39, Try.ntmps39
    go_wp2_with fail
    go_quiet (fail)
    go_wp2
    go_ret
    refine ⟨ret_bool (by go_light; rw [hs.out]), ?_⟩
    repeat (first | with_reducible exact Below.refl _ _ | with_reducible assumption | ((with_reducible refine blA ?_ ?_); (focus (first | omega | (simp <;> omega)))) | (with_reducible refine blD ?_) | (with_reducible refine blN ?_) | ((with_reducible refine blS ?_ ?_); (focus (first | omega | (simp <;> omega)))) | ((with_reducible refine blT (by assumption) ?_ ?_); (focus (first | omega | (simp <;> omega)))))
set_option maxHeartbeats 1000000 in
theorem idHas_any (d e a b u v : Int) (w : World) (h : idB d e a b = true) (hu : G9 u) (hv : G9 v) :
    Calls Try.prog 37 #[.agg #[.int .i64 e, .int .i64 a, .int .i64 b], .int .i64 u, .int .i64 v] w fun en w' => en = .returned (.bool (ihB e a b u v)) ∧ Below w.heap.size w w' := by
  obtain ⟨h0, h1, h2, h3, h4, h5, h6, h7⟩ := idB_true h
  obtain ⟨⟨f1, f2⟩, ⟨f3, f4⟩, _, ⟨f5, f6⟩⟩ := ih_facts (e := e) hu hv h5 (by omega)
  obtain ⟨m1, m2⟩ := mul_bd (show Bd 20000 (2 * e) from ⟨by omega, by omega⟩) (show Bd 10000 a from ⟨by omega, by omega⟩) (show (20000 : Int) * 10000 ≤ 200000000 by decide)
  have m3 : 0 < 2 * e * a := Int.mul_pos (by omega) (by omega)
  obtain ⟨u1, u2⟩ := hu
  clear h h7
  by_cases c2 : v.tmod e = 0
  · have k2 : (v.tmod e == 0) = true := by simp [c2]
    have k3 : (v.tmod e != 0) = false := by simp [c2]
    have hs : Hid (ihB e a b u v = ((u + v * b).tmod (2 * e * a) == 0)) := by
      show _ = _
      rw [ih_eq h1 c2, Bool.eq_iff_iff]
      simp
    clear c2
    go_enter Try.func37, Try.ntmps37
    go_wp2
    go_ret
    refine ⟨ret_bool (by go_light; rw [hs.out]), ?_⟩
    repeat (first | with_reducible exact Below.refl _ _ | with_reducible assumption | ((with_reducible refine blA ?_ ?_); (focus (first | omega | (simp <;> omega)))) | (with_reducible refine blD ?_) | (with_reducible refine blN ?_) | ((with_reducible refine blS ?_ ?_); (focus (first | omega | (simp <;> omega)))) | ((with_reducible refine blT (by assumption) ?_ ?_); (focus (first | omega | (simp <;> omega)))))
  · have k2 : (v.tmod e == 0) = false := by simp [c2]
    have k3 : (v.tmod e != 0) = true := by simp [c2]
    have hs : Hid (ihB e a b u v = false) := by show _ = _; simp [ihB, c2]
    clear c2
    go_enter Try.func37, Try.ntmps37
    go_wp2
    go_ret
    refine ⟨ret_bool (by go_light; rw [hs.out]), ?_⟩
    repeat (first | with_reducible exact Below.refl _ _ | with_reducible assumption | ((with_reducible refine blA ?_ ?_); (focus (first | omega | (simp <;> omega)))) | (with_reducible refine blD ?_) | (with_reducible refine blN ?_) | ((with_reducible refine blS ?_ ?_); (focus (first | omega | (simp <;> omega)))) | ((with_reducible refine blT (by assumption) ?_ ?_); (focus (first | omega | (simp <;> omega)))))
def heB (d e a b u v : Int) : Bool := (idB d e a b && elB d u v) && ihB e a b u v
theorem el_G9 {d u v : Int} (h : elB d u v = true) : G9 u ∧ G9 v := by
  obtain ⟨⟨a, b⟩, ⟨c, d⟩⟩ := elB_bd h
  exact ⟨⟨by omega, by omega⟩, ⟨by omega, by omega⟩⟩
set_option maxHeartbeats 1000000 in
theorem implHasElement_any (d e a b u v : Int) (w : World) (hd : I64 d) :
    Calls Try.prog 16 #[.int .i64 d, .agg #[.int .i64 e, .int .i64 a, .int .i64 b], .int .i64 u, .int .i64 v] w fun en w' => en = .returned (.tuple #[.bool (heB d e a b u v), .bool (idB d e a b && elB d u v)]) ∧ Below w.heap.size w w' := by
  by_cases c1 : idB d e a b = true
  · have hn := (idB_true c1).1
    by_cases c2 : elB d u v = true
    · obtain ⟨g1, g2⟩ := el_G9 c2
      have hs : Hid (heB d e a b u v = ihB e a b u v) := by show _ = _; simp [heB, c1, c2]
      go_enter Try.func16, Try.ntmps16
      go_wp2_with (first | (go_at_call 34; refine (isIdeal_any _ _ _ _ _ hd).mono ?_; rintro e w' ⟨rfl, hB⟩; obtain ⟨hC, hF⟩ := bcell hB; have hS := hB.size; (try simp at hS); (try have hSl := Nat.lt_of_succ_le hS); (try have hS0 : w.heap.size < w'.heap.size := by omega); (try have hS1 : w.heap.size + 1 < w'.heap.size := by omega); (try have hS2 : w.heap.size + 1 + 1 < w'.heap.size := by omega); (try have hS3 : w.heap.size + 1 + 1 + 1 < w'.heap.size := by omega)) | (go_at_call 38; refine (isElement_any _ _ _ _ hn).mono ?_; rintro e w' ⟨rfl, hB⟩; obtain ⟨hC, hF⟩ := bcell hB; have hS := hB.size; (try simp at hS); (try have hSl := Nat.lt_of_succ_le hS); (try have hS0 : w.heap.size < w'.heap.size := by omega); (try have hS1 : w.heap.size + 1 < w'.heap.size := by omega); (try have hS2 : w.heap.size + 1 + 1 < w'.heap.size := by omega); (try have hS3 : w.heap.size + 1 + 1 + 1 < w'.heap.size := by omega)) | (go_at_call 39; refine (ihas_any _ _ _ _ _ _ _ c1 g1 g2).mono ?_; rintro e w' ⟨rfl, hB⟩; obtain ⟨hC, hF⟩ := bcell hB; have hS := hB.size; (try simp at hS); (try have hSl := Nat.lt_of_succ_le hS); (try have hS0 : w.heap.size < w'.heap.size := by omega); (try have hS1 : w.heap.size + 1 < w'.heap.size := by omega); (try have hS2 : w.heap.size + 1 + 1 < w'.heap.size := by omega); (try have hS3 : w.heap.size + 1 + 1 + 1 < w'.heap.size := by omega)))
      go_ret2
      refine ⟨ret_bb (by go_light; rw [hs.out]) (by go_light; rw [c1, c2]; rfl), ?_⟩
      repeat (first | with_reducible exact Below.refl _ _ | with_reducible assumption | ((with_reducible refine blA ?_ ?_); (focus (first | omega | (simp <;> omega)))) | (with_reducible refine blD ?_) | (with_reducible refine blN ?_) | ((with_reducible refine blS ?_ ?_); (focus (first | omega | (simp <;> omega)))) | ((with_reducible refine blT (by assumption) ?_ ?_); (focus (first | omega | (simp <;> omega)))))
    · have c2' : elB d u v = false := by simpa using c2
      have hs : Hid (heB d e a b u v = false) := by show _ = _; simp [heB, c2']
      clear c2
      go_enter Try.func16, Try.ntmps16
      go_wp2_with (first | (go_at_call 34; refine (isIdeal_any _ _ _ _ _ hd).mono ?_; rintro e w' ⟨rfl, hB⟩; obtain ⟨hC, hF⟩ := bcell hB; have hS := hB.size; (try simp at hS); (try have hSl := Nat.lt_of_succ_le hS); (try have hS0 : w.heap.size < w'.heap.size := by omega); (try have hS1 : w.heap.size + 1 < w'.heap.size := by omega); (try have hS2 : w.heap.size + 1 + 1 < w'.heap.size := by omega); (try have hS3 : w.heap.size + 1 + 1 + 1 < w'.heap.size := by omega)) | (go_at_call 38; refine (isElement_any _ _ _ _ hn).mono ?_; rintro e w' ⟨rfl, hB⟩; obtain ⟨hC, hF⟩ := bcell hB; have hS := hB.size; (try simp at hS); (try have hSl := Nat.lt_of_succ_le hS); (try have hS0 : w.heap.size < w'.heap.size := by omega); (try have hS1 : w.heap.size + 1 < w'.heap.size := by omega); (try have hS2 : w.heap.size + 1 + 1 < w'.heap.size := by omega); (try have hS3 : w.heap.size + 1 + 1 + 1 < w'.heap.size := by omega)))
      go_ret2
      refine ⟨ret_bb (by go_light; rw [hs.out]) (by go_light; rw [c1, c2']; rfl), ?_⟩
      repeat (first | with_reducible exact Below.refl _ _ | with_reducible assumption | ((with_reducible refine blA ?_ ?_); (focus (first | omega | (simp <;> omega)))) | (with_reducible refine blD ?_) | (with_reducible refine blN ?_) | ((with_reducible refine blS ?_ ?_); (focus (first | omega | (simp <;> omega)))) | ((with_reducible refine blT (by assumption) ?_ ?_); (focus (first | omega | (simp <;> omega)))))
  · have c1' : idB d e a b = false := by simpa using c1
    have hs : Hid (heB d e a b u v = false) := by show _ = _; simp [heB, c1']
    clear c1
    go_enter Try.func16, Try.ntmps16
    go_wp2_with (first | (go_at_call 34; refine (isIdeal_any _ _ _ _ _ hd).mono ?_; rintro e w' ⟨rfl, hB⟩; obtain ⟨hC, hF⟩ := bcell hB; have hS := hB.size; (try simp at hS); (try have hSl := Nat.lt_of_succ_le hS); (try have hS0 : w.heap.size < w'.heap.size := by omega); (try have hS1 : w.heap.size + 1 < w'.heap.size := by omega); (try have hS2 : w.heap.size + 1 + 1 < w'.heap.size := by omega); (try have hS3 : w.heap.size + 1 + 1 + 1 < w'.heap.size := by omega)))
    go_ret2
    refine ⟨ret_bb (by go_light; rw [hs.out]) (by go_light; rw [c1']; rfl), ?_⟩
    repeat (first | with_reducible exact Below.refl _ _ | with_reducible assumption | ((with_reducible refine blA ?_ ?_); (focus (first | omega | (simp <;> omega)))) | (with_reducible refine blD ?_) | (with_reducible refine blN ?_) | ((with_reducible refine blS ?_ ?_); (focus (first | omega | (simp <;> omega)))) | ((with_reducible refine blT (by assumption) ?_ ?_); (focus (first | omega | (simp <;> omega)))))
set_option maxHeartbeats 1000000 in
theorem specHasElement_any (d e a b u v : Int) (w : World) (hd : I64 d) :
    Calls Try.prog 15 #[.int .i64 d, .agg #[.int .i64 e, .int .i64 a, .int .i64 b], .int .i64 u, .int .i64 v] w fun en w' => en = .returned (.tuple #[.bool (heB d e a b u v), .bool (idB d e a b && elB d u v)]) ∧ Below w.heap.size w w' := by
  by_cases c1 : idB d e a b = true
  · have hn := (idB_true c1).1
    by_cases c2 : elB d u v = true
    · obtain ⟨g1, g2⟩ := el_G9 c2
      have hs : Hid (heB d e a b u v = ihB e a b u v) := by show _ = _; simp [heB, c1, c2]
      go_enter Try.func15, Try.ntmps15
      go_wp2_with (first | (go_at_call 32; refine (idGood_any _ _ _ _ _ hd).mono ?_; rintro e w' ⟨rfl, hB⟩; obtain ⟨hC, hF⟩ := bcell hB; have hS := hB.size; (try simp at hS); (try have hSl := Nat.lt_of_succ_le hS); (try have hS0 : w.heap.size < w'.heap.size := by omega); (try have hS1 : w.heap.size + 1 < w'.heap.size := by omega); (try have hS2 : w.heap.size + 1 + 1 < w'.heap.size := by omega); (try have hS3 : w.heap.size + 1 + 1 + 1 < w'.heap.size := by omega)) | (go_at_call 36; refine (idPair_any _ _ _ _ hn).mono ?_; rintro e w' ⟨rfl, rfl⟩) | (go_at_call 37; refine (idHas_any _ _ _ _ _ _ _ c1 g1 g2).mono ?_; rintro e w' ⟨rfl, hB⟩; obtain ⟨hC, hF⟩ := bcell hB; have hS := hB.size; (try simp at hS); (try have hSl := Nat.lt_of_succ_le hS); (try have hS0 : w.heap.size < w'.heap.size := by omega); (try have hS1 : w.heap.size + 1 < w'.heap.size := by omega); (try have hS2 : w.heap.size + 1 + 1 < w'.heap.size := by omega); (try have hS3 : w.heap.size + 1 + 1 + 1 < w'.heap.size := by omega)))
      go_ret2
      refine ⟨ret_bb (by go_light; rw [hs.out]) (by go_light; rw [c1, c2]; rfl), ?_⟩
      repeat (first | with_reducible exact Below.refl _ _ | with_reducible assumption | ((with_reducible refine blA ?_ ?_); (focus (first | omega | (simp <;> omega)))) | (with_reducible refine blD ?_) | (with_reducible refine blN ?_) | ((with_reducible refine blS ?_ ?_); (focus (first | omega | (simp <;> omega)))) | ((with_reducible refine blT (by assumption) ?_ ?_); (focus (first | omega | (simp <;> omega)))))
    · have c2' : elB d u v = false := by simpa using c2
      have hs : Hid (heB d e a b u v = false) := by show _ = _; simp [heB, c2']
      clear c2
      go_enter Try.func15, Try.ntmps15
      go_wp2_with (first | (go_at_call 32; refine (idGood_any _ _ _ _ _ hd).mono ?_; rintro e w' ⟨rfl, hB⟩; obtain ⟨hC, hF⟩ := bcell hB; have hS := hB.size; (try simp at hS); (try have hSl := Nat.lt_of_succ_le hS); (try have hS0 : w.heap.size < w'.heap.size := by omega); (try have hS1 : w.heap.size + 1 < w'.heap.size := by omega); (try have hS2 : w.heap.size + 1 + 1 < w'.heap.size := by omega); (try have hS3 : w.heap.size + 1 + 1 + 1 < w'.heap.size := by omega)) | (go_at_call 36; refine (idPair_any _ _ _ _ hn).mono ?_; rintro e w' ⟨rfl, rfl⟩))
      go_ret2
      refine ⟨ret_bb (by go_light; rw [hs.out]) (by go_light; rw [c1, c2']; rfl), ?_⟩
      repeat (first | with_reducible exact Below.refl _ _ | with_reducible assumption | ((with_reducible refine blA ?_ ?_); (focus (first | omega | (simp <;> omega)))) | (with_reducible refine blD ?_) | (with_reducible refine blN ?_) | ((with_reducible refine blS ?_ ?_); (focus (first | omega | (simp <;> omega)))) | ((with_reducible refine blT (by assumption) ?_ ?_); (focus (first | omega | (simp <;> omega)))))
  · have c1' : idB d e a b = false := by simpa using c1
    have hs : Hid (heB d e a b u v = false) := by show _ = _; simp [heB, c1']
    clear c1
    go_enter Try.func15, Try.ntmps15
    go_wp2_with (first | (go_at_call 32; refine (idGood_any _ _ _ _ _ hd).mono ?_; rintro e w' ⟨rfl, hB⟩; obtain ⟨hC, hF⟩ := bcell hB; have hS := hB.size; (try simp at hS); (try have hSl := Nat.lt_of_succ_le hS); (try have hS0 : w.heap.size < w'.heap.size := by omega); (try have hS1 : w.heap.size + 1 < w'.heap.size := by omega); (try have hS2 : w.heap.size + 1 + 1 < w'.heap.size := by omega); (try have hS3 : w.heap.size + 1 + 1 + 1 < w'.heap.size := by omega)))
    go_ret2
    refine ⟨ret_bb (by go_light; rw [hs.out]) (by go_light; rw [c1']; rfl), ?_⟩
    repeat (first | with_reducible exact Below.refl _ _ | with_reducible assumption | ((with_reducible refine blA ?_ ?_); (focus (first | omega | (simp <;> omega)))) | (with_reducible refine blD ?_) | (with_reducible refine blN ?_) | ((with_reducible refine blS ?_ ?_); (focus (first | omega | (simp <;> omega)))) | ((with_reducible refine blT (by assumption) ?_ ?_); (focus (first | omega | (simp <;> omega)))))
set_option maxHeartbeats 1000000 in
theorem law_hasElement (d e a b u v : Int) (w : World) (hd : I64 d) (_ : I64 e) (_ : I64 a) (_ : I64 b) (_ : I64 u) (_ : I64 v) :
    Calls Try.prog 4 #[.int .i64 d, .agg #[.int .i64 e, .int .i64 a, .int .i64 b], .int .i64 u, .int .i64 v] w fun en w' => en = .returned (.bool true) ∧ Below w.heap.size w w' := by
  go_enter Try.func4, Try.ntmps4
  go_wp2_with (first | (go_at_call 12; refine (toIdeal_any _ _ _ _).mono ?_; rintro e w' ⟨rfl, hB⟩; obtain ⟨hC, hF⟩ := bcell hB; have hS := hB.size; (try simp at hS); (try have hSl := Nat.lt_of_succ_le hS); (try have hS0 : w.heap.size < w'.heap.size := by omega); (try have hS1 : w.heap.size + 1 < w'.heap.size := by omega); (try have hS2 : w.heap.size + 1 + 1 < w'.heap.size := by omega); (try have hS3 : w.heap.size + 1 + 1 + 1 < w'.heap.size := by omega)) | (go_at_call 15; refine (specHasElement_any _ _ _ _ _ _ _ hd).mono ?_; rintro e w' ⟨rfl, hB⟩; obtain ⟨hC, hF⟩ := bcell hB; have hS := hB.size; (try simp at hS); (try have hSl := Nat.lt_of_succ_le hS); (try have hS0 : w.heap.size < w'.heap.size := by omega); (try have hS1 : w.heap.size + 1 < w'.heap.size := by omega); (try have hS2 : w.heap.size + 1 + 1 < w'.heap.size := by omega); (try have hS3 : w.heap.size + 1 + 1 + 1 < w'.heap.size := by omega)) | (go_at_call 16; refine (implHasElement_any _ _ _ _ _ _ _ hd).mono ?_; rintro e w' ⟨rfl, hB⟩; obtain ⟨hC, hF⟩ := bcell hB; have hS := hB.size; (try simp at hS); (try have hSl := Nat.lt_of_succ_le hS); (try have hS0 : w.heap.size < w'.heap.size := by omega); (try have hS1 : w.heap.size + 1 < w'.heap.size := by omega); (try have hS2 : w.heap.size + 1 + 1 < w'.heap.size := by omega); (try have hS3 : w.heap.size + 1 + 1 + 1 < w'.heap.size := by omega)))
  go_ret
  refine ⟨rfl, ?_⟩
  repeat (first | with_reducible exact Below.refl _ _ | with_reducible assumption | ((with_reducible refine blA ?_ ?_); (focus (first | omega | (simp <;> omega)))) | (with_reducible refine blD ?_) | (with_reducible refine blN ?_) | ((with_reducible refine blS ?_ ?_); (focus (first | omega | (simp <;> omega)))) | ((with_reducible refine blT (by assumption) ?_ ?_); (focus (first | omega | (simp <;> omega)))))
def ivB (d e a b : Int) : Bool := idB d e a b && decide (gcd3 a b (idC d a b) = 1)
theorem idC_J {d e a b : Int} (h : idB d e a b = true) : J64 a ∧ J64 b ∧ J64 (idC d a b) := by
  obtain ⟨h0, h1, h2, h3, h4, h5, h6, h7⟩ := idB_true h
  obtain ⟨m1, m2, m3, m4⟩ := idB_facts h0 h3 h4 h5 h6
  refine ⟨⟨by omega, by omega⟩, ⟨by omega, by omega⟩, ?_⟩
  have e1 : 0 ≤ idC d a b := Int.ediv_nonneg m3 (by omega)
  have e2 : idC d a b ≤ b * b - d := Int.ediv_le_self _ m3
  exact ⟨by omega, by omega⟩
theorem implIsInvertible_any (d e a b : Int) (w : World) (hd : I64 d) :
    Calls Try.prog 20 #[.int .i64 d, .agg #[.int .i64 e, .int .i64 a, .int .i64 b]] w fun en w' => en = .returned (.tuple #[.bool (ivB d e a b), .bool (idB d e a b)]) ∧ Below w.heap.size w w' := by
  by_cases c1 : idB d e a b = true
  · obtain ⟨j1, j2, j3⟩ := idC_J c1
    have hs : Hid (ivB d e a b = (gcd3 a b (idC d a b) == 1)) := by show _ = _; rw [Bool.eq_iff_iff]; simp [ivB, c1]
    go_enter Try.func20, Try.ntmps20
    go_wp2_with (first | (go_at_call 34; refine (isIdeal_any _ _ _ _ _ hd).mono ?_; rintro e w' ⟨rfl, hB⟩; obtain ⟨hC, hF⟩ := bcell hB; have hS := hB.size; (try simp at hS); (try have hSl := Nat.lt_of_succ_le hS); (try have hS0 : w.heap.size < w'.heap.size := by omega); (try have hS1 : w.heap.size + 1 < w'.heap.size := by omega); (try have hS2 : w.heap.size + 1 + 1 < w'.heap.size := by omega); (try have hS3 : w.heap.size + 1 + 1 + 1 < w'.heap.size := by omega)) | (go_at_call 35; refine (idealForm_any _ _ _ _ _ c1).mono ?_; rintro e w' ⟨rfl, hB⟩; obtain ⟨hC, hF⟩ := bcell hB; have hS := hB.size; (try simp at hS); (try have hSl := Nat.lt_of_succ_le hS); (try have hS0 : w.heap.size < w'.heap.size := by omega); (try have hS1 : w.heap.size + 1 < w'.heap.size := by omega); (try have hS2 : w.heap.size + 1 + 1 < w'.heap.size := by omega); (try have hS3 : w.heap.size + 1 + 1 + 1 < w'.heap.size := by omega)) | (go_at_call 44; refine (content_any _ _ _ _ j1 j2 j3).mono ?_; rintro e w' ⟨rfl, hB⟩; obtain ⟨hC, hF⟩ := bcell hB; have hS := hB.size; (try simp at hS); (try have hSl := Nat.lt_of_succ_le hS); (try have hS0 : w.heap.size < w'.heap.size := by omega); (try have hS1 : w.heap.size + 1 < w'.heap.size := by omega); (try have hS2 : w.heap.size + 1 + 1 < w'.heap.size := by omega); (try have hS3 : w.heap.size + 1 + 1 + 1 < w'.heap.size := by omega)))
    go_ret2
    refine ⟨ret_bb (by go_light; rw [hs.out]) (by go_light; rw [c1]), ?_⟩
    repeat (first | with_reducible exact Below.refl _ _ | with_reducible assumption | ((with_reducible refine blA ?_ ?_); (focus (first | omega | (simp <;> omega)))) | (with_reducible refine blD ?_) | (with_reducible refine blN ?_) | ((with_reducible refine blS ?_ ?_); (focus (first | omega | (simp <;> omega)))) | ((with_reducible refine blT (by assumption) ?_ ?_); (focus (first | omega | (simp <;> omega)))))
  · have c1' : idB d e a b = false := by simpa using c1
    have hs : Hid (ivB d e a b = false) := by show _ = _; simp [ivB, c1']
    clear c1
    go_enter Try.func20, Try.ntmps20
    go_wp2_with (first | (go_at_call 34; refine (isIdeal_any _ _ _ _ _ hd).mono ?_; rintro e w' ⟨rfl, hB⟩; obtain ⟨hC, hF⟩ := bcell hB; have hS := hB.size; (try simp at hS); (try have hSl := Nat.lt_of_succ_le hS); (try have hS0 : w.heap.size < w'.heap.size := by omega); (try have hS1 : w.heap.size + 1 < w'.heap.size := by omega); (try have hS2 : w.heap.size + 1 + 1 < w'.heap.size := by omega); (try have hS3 : w.heap.size + 1 + 1 + 1 < w'.heap.size := by omega)))
    go_ret2
    refine ⟨ret_bb (by go_light; rw [hs.out]) (by go_light; rw [c1']), ?_⟩
    repeat (first | with_reducible exact Below.refl _ _ | with_reducible assumption | ((with_reducible refine blA ?_ ?_); (focus (first | omega | (simp <;> omega)))) | (with_reducible refine blD ?_) | (with_reducible refine blN ?_) | ((with_reducible refine blS ?_ ?_); (focus (first | omega | (simp <;> omega)))) | ((with_reducible refine blT (by assumption) ?_ ?_); (focus (first | omega | (simp <;> omega)))))
theorem specIsInvertible_any (d e a b : Int) (w : World) (hd : I64 d) :
    Calls Try.prog 19 #[.int .i64 d, .agg #[.int .i64 e, .int .i64 a, .int .i64 b]] w fun en w' => en = .returned (.tuple #[.bool (ivB d e a b), .bool (idB d e a b)]) ∧ Below w.heap.size w w' := by
  by_cases c1 : idB d e a b = true
  · obtain ⟨j1, j2, j3⟩ := idC_J c1
    have hs : Hid (ivB d e a b = (gcd3 a b (idC d a b) == 1)) := by show _ = _; rw [Bool.eq_iff_iff]; simp [ivB, c1]
    go_enter Try.func19, Try.ntmps19
    go_wp2_with (first | (go_at_call 32; refine (idGood_any _ _ _ _ _ hd).mono ?_; rintro e w' ⟨rfl, hB⟩; obtain ⟨hC, hF⟩ := bcell hB; have hS := hB.size; (try simp at hS); (try have hSl := Nat.lt_of_succ_le hS); (try have hS0 : w.heap.size < w'.heap.size := by omega); (try have hS1 : w.heap.size + 1 < w'.heap.size := by omega); (try have hS2 : w.heap.size + 1 + 1 < w'.heap.size := by omega); (try have hS3 : w.heap.size + 1 + 1 + 1 < w'.heap.size := by omega)) | (go_at_call 33; refine (idForm_any _ _ _ _ _ c1).mono ?_; rintro e w' ⟨rfl, hB⟩; obtain ⟨hC, hF⟩ := bcell hB; have hS := hB.size; (try simp at hS); (try have hSl := Nat.lt_of_succ_le hS); (try have hS0 : w.heap.size < w'.heap.size := by omega); (try have hS1 : w.heap.size + 1 < w'.heap.size := by omega); (try have hS2 : w.heap.size + 1 + 1 < w'.heap.size := by omega); (try have hS3 : w.heap.size + 1 + 1 + 1 < w'.heap.size := by omega)) | (go_at_call 43; refine (foContent_any _ _ _ _ j1 j2 j3).mono ?_; rintro e w' ⟨rfl, hB⟩; obtain ⟨hC, hF⟩ := bcell hB; have hS := hB.size; (try simp at hS); (try have hSl := Nat.lt_of_succ_le hS); (try have hS0 : w.heap.size < w'.heap.size := by omega); (try have hS1 : w.heap.size + 1 < w'.heap.size := by omega); (try have hS2 : w.heap.size + 1 + 1 < w'.heap.size := by omega); (try have hS3 : w.heap.size + 1 + 1 + 1 < w'.heap.size := by omega)))
    go_ret2
    refine ⟨ret_bb (by go_light; rw [hs.out]) (by go_light; rw [c1]), ?_⟩
    repeat (first | with_reducible exact Below.refl _ _ | with_reducible assumption | ((with_reducible refine blA ?_ ?_); (focus (first | omega | (simp <;> omega)))) | (with_reducible refine blD ?_) | (with_reducible refine blN ?_) | ((with_reducible refine blS ?_ ?_); (focus (first | omega | (simp <;> omega)))) | ((with_reducible refine blT (by assumption) ?_ ?_); (focus (first | omega | (simp <;> omega)))))
  · have c1' : idB d e a b = false := by simpa using c1
    have hs : Hid (ivB d e a b = false) := by show _ = _; simp [ivB, c1']
    clear c1
    go_enter Try.func19, Try.ntmps19
    go_wp2_with (first | (go_at_call 32; refine (idGood_any _ _ _ _ _ hd).mono ?_; rintro e w' ⟨rfl, hB⟩; obtain ⟨hC, hF⟩ := bcell hB; have hS := hB.size; (try simp at hS); (try have hSl := Nat.lt_of_succ_le hS); (try have hS0 : w.heap.size < w'.heap.size := by omega); (try have hS1 : w.heap.size + 1 < w'.heap.size := by omega); (try have hS2 : w.heap.size + 1 + 1 < w'.heap.size := by omega); (try have hS3 : w.heap.size + 1 + 1 + 1 < w'.heap.size := by omega)))
    go_ret2
    refine ⟨ret_bb (by go_light; rw [hs.out]) (by go_light; rw [c1']), ?_⟩
    repeat (first | with_reducible exact Below.refl _ _ | with_reducible assumption | ((with_reducible refine blA ?_ ?_); (focus (first | omega | (simp <;> omega)))) | (with_reducible refine blD ?_) | (with_reducible refine blN ?_) | ((with_reducible refine blS ?_ ?_); (focus (first | omega | (simp <;> omega)))) | ((with_reducible refine blT (by assumption) ?_ ?_); (focus (first | omega | (simp <;> omega)))))
set_option maxHeartbeats 1000000 in
theorem law_isInvertible (d e a b : Int) (w : World) (hd : I64 d) (_ : I64 e) (_ : I64 a) (_ : I64 b) :
    Calls Try.prog 6 #[.int .i64 d, .agg #[.int .i64 e, .int .i64 a, .int .i64 b]] w fun en w' => en = .returned (.bool true) ∧ Below w.heap.size w w' := by
  go_enter Try.func6, Try.ntmps6
  go_wp2_with (first | (go_at_call 12; refine (toIdeal_any _ _ _ _).mono ?_; rintro e w' ⟨rfl, hB⟩; obtain ⟨hC, hF⟩ := bcell hB; have hS := hB.size; (try simp at hS); (try have hSl := Nat.lt_of_succ_le hS); (try have hS0 : w.heap.size < w'.heap.size := by omega); (try have hS1 : w.heap.size + 1 < w'.heap.size := by omega); (try have hS2 : w.heap.size + 1 + 1 < w'.heap.size := by omega); (try have hS3 : w.heap.size + 1 + 1 + 1 < w'.heap.size := by omega)) | (go_at_call 19; refine (specIsInvertible_any _ _ _ _ _ hd).mono ?_; rintro e w' ⟨rfl, hB⟩; obtain ⟨hC, hF⟩ := bcell hB; have hS := hB.size; (try simp at hS); (try have hSl := Nat.lt_of_succ_le hS); (try have hS0 : w.heap.size < w'.heap.size := by omega); (try have hS1 : w.heap.size + 1 < w'.heap.size := by omega); (try have hS2 : w.heap.size + 1 + 1 < w'.heap.size := by omega); (try have hS3 : w.heap.size + 1 + 1 + 1 < w'.heap.size := by omega)) | (go_at_call 20; refine (implIsInvertible_any _ _ _ _ _ hd).mono ?_; rintro e w' ⟨rfl, hB⟩; obtain ⟨hC, hF⟩ := bcell hB; have hS := hB.size; (try simp at hS); (try have hSl := Nat.lt_of_succ_le hS); (try have hS0 : w.heap.size < w'.heap.size := by omega); (try have hS1 : w.heap.size + 1 < w'.heap.size := by omega); (try have hS2 : w.heap.size + 1 + 1 < w'.heap.size := by omega); (try have hS3 : w.heap.size + 1 + 1 + 1 < w'.heap.size := by omega)))
  go_ret
  refine ⟨rfl, ?_⟩
  repeat (first | with_reducible exact Below.refl _ _ | with_reducible assumption | ((with_reducible refine blA ?_ ?_); (focus (first | omega | (simp <;> omega)))) | (with_reducible refine blD ?_) | (with_reducible refine blN ?_) | ((with_reducible refine blS ?_ ?_); (focus (first | omega | (simp <;> omega)))) | ((with_reducible refine blT (by assumption) ?_ ?_); (focus (first | omega | (simp <;> omega)))))
end Go.Proofs.Ytahhbjjnbdggjaa
