/-
  The law FnMatrices. (Printed by mkfnm.py.)
-/
import Derived.Test.YtlfbanoabipacaaDoorDrx
import Derived.Test.YtlfbanoabipacaaDoorMxq
import Derived.Test.YtlfbanoabipacaaDoorFnl
import Derived.Test.YtlfbanoabipacaaDoorByt
namespace Go.Proofs.YtlfbanoabipacaaDoor
open Go.RowKit
attribute [local simp, local go_sem] past_cell past_frozen past_tape
set_option maxRecDepth 100000 in
set_option maxHeartbeats 20000000 in
theorem law_matrices (a0 : Option Addr) (len0 cap0 : Nat) (a1 : Option Addr) (len1 cap1 : Nat) (w : World) (hc0 : CodeOk w.heap.size w a0 len0) (hc1 : CodeOk w.heap.size w a1 len1) (hl0 : len0 ≤ 9223372036854775807) (hl1 : len1 ≤ 9223372036854775807) (he : Errs w) (ht : Tab w) :
    Calls Tryd.prog 5 #[.slice a0 len0 cap0, .slice a1 len1 cap1] w fun en w' => en = .returned (.bool true) ∧ Below w.heap.size w w' := by
  have HE := Lib.hid he
  have HT := Lib.hid ht
  clear he ht
  by_cases hbig : bigB len0 len1 = true
  · go_enter Tryd.func5, Tryd.ntmps5
    go_wp2_with fail
    refine (big_any _ _ _ _ _ _ _ hl0 hl1).mono ?_
    rintro e0 w1 ⟨rfl, hB⟩
    go_wp2_with fail
    go_ret
    refine ⟨rfl, ?_⟩
    repeat (first | with_reducible exact Below.refl _ _ | with_reducible assumption | ((with_reducible refine blA ?_ ?_); (focus (first | omega | (simp <;> omega)))) | (with_reducible refine blD ?_) | (with_reducible refine blN ?_) | ((with_reducible refine blS ?_ ?_); (focus (first | omega | (simp <;> omega)))) | ((with_reducible refine blT (by assumption) ?_ ?_); (focus (first | omega | (simp <;> omega)))))
  have hbig' : bigB len0 len1 = false := by simpa using hbig
  have hsm : (len0 : Int) ≤ 1048576 ∧ (len1 : Int) ≤ 1048576 := by
    simp only [bigB, Bool.or_eq_false_iff, decide_eq_false_iff_not] at hbig'
    omega
  go_enter Tryd.func5, Tryd.ntmps5
  go_wp2_with fail
  refine (big_any _ _ _ _ _ _ _ hl0 hl1).mono ?_
  rintro e0 va ⟨rfl, hBa⟩
  go_wp2_with fail
  refine (drawMatrixInverse_any a0 len0 cap0 _ (hc0.up hBa.size hBa) (by omega)).mono ?_
  rintro e2 vb ⟨⟨⟨p, q, r, s⟩, rfl, hI⟩, hBb⟩
  have hW0 := Lib.hid (hBa.trans (hBb.mono hBa.size))
  have hwz0 := hW0.out.size
  clear hBa hBb hI hbig
  by_cases hm : minB p q r s = true
  · obtain ⟨g1, g2, e1, e2, e3, e4⟩ := inv_facts hm
    have hv : minV p q r s = .agg #[.int .i64 (iP p q r s), .int .i64 (iQ p q r s), .int .i64 (iR p q r s), .int .i64 (iS p q r s)] := if_pos hm
    have c1 : Hid (∀ w0, Calls Tryd.prog 14 #[.agg #[.int .i64 p, .int .i64 q, .int .i64 r, .int .i64 s]] w0 fun en w' => en = .returned (.tuple #[.agg #[.int .i64 (iP p q r s), .int .i64 (iQ p q r s), .int .i64 (iR p q r s), .int .i64 (iS p q r s)], .bool true]) ∧ Below w0.heap.size w0 w') := fun w0 => by have h := MatrixInverse_any p q r s w0; rwa [hv, hm] at h
    have c2 : Hid (∀ w0, Calls Tryd.prog 15 #[.agg #[.int .i64 p, .int .i64 q, .int .i64 r, .int .i64 s]] w0 fun en w' => en = .returned (.tuple #[.agg #[.int .i64 (iP p q r s), .int .i64 (iQ p q r s), .int .i64 (iR p q r s), .int .i64 (iS p q r s)], .bool true]) ∧ Below w0.heap.size w0 w') := fun w0 => by have h := sMatrixInverse_any p q r s w0; rwa [hv, hm] at h
    clear hv hm
    generalize iP p q r s = P at *
    generalize iQ p q r s = Q at *
    generalize iR p q r s = R at *
    generalize iS p q r s = S at *
    go_wp2_with fail
    refine (c1.out _).mono ?_
    rintro e1 v1 ⟨rfl, hB1⟩
    obtain ⟨hC1, hF1⟩ := bcell hB1
    have hz1 := hB1.size
    (try simp at hz1)
    have hb1_0 : vb.heap.size < v1.heap.size := by omega
    have hc1_0 : vb.heap.size < v1.heap.size + 1 := by omega
    have hW1 : Hid (Below w.heap.size w v1) := Lib.hid (by have hX := hW0.out; repeat (first | with_reducible exact Below.refl _ _ | with_reducible assumption | ((with_reducible refine blA ?_ ?_); (focus (first | omega | (simp <;> omega)))) | (with_reducible refine blD ?_) | (with_reducible refine blN ?_) | ((with_reducible refine blS ?_ ?_); (focus (first | omega | (simp <;> omega)))) | ((with_reducible refine blT (by assumption) ?_ ?_); (focus (first | omega | (simp <;> omega))))))
    have hwz1 := hW1.out.size
    clear hB1
    go_wp2_with fail
    refine (c2.out _).mono ?_
    rintro e2 v2 ⟨rfl, hB2⟩
    obtain ⟨hC2, hF2⟩ := bcell hB2
    have hz2 := hB2.size
    (try simp at hz2)
    have hb2_0 : vb.heap.size < v2.heap.size := by omega
    have hc2_0 : vb.heap.size < v2.heap.size + 1 := by omega
    have hb2_1 : v1.heap.size < v2.heap.size := by omega
    have hc2_1 : v1.heap.size < v2.heap.size + 1 := by omega
    have hW2 : Hid (Below w.heap.size w v2) := Lib.hid (by have hX := hW1.out; repeat (first | with_reducible exact Below.refl _ _ | with_reducible assumption | ((with_reducible refine blA ?_ ?_); (focus (first | omega | (simp <;> omega)))) | (with_reducible refine blD ?_) | (with_reducible refine blN ?_) | ((with_reducible refine blS ?_ ?_); (focus (first | omega | (simp <;> omega)))) | ((with_reducible refine blT (by assumption) ?_ ?_); (focus (first | omega | (simp <;> omega))))))
    have hwz2 := hW2.out.size
    clear hB2
    go_wp2_with fail
    refine (product_one p q r s P Q R S _ g1 g2 e1 e2 e3 e4).mono ?_
    rintro e3 v3 ⟨rfl, hB3⟩
    obtain ⟨hC3, hF3⟩ := bcell hB3
    have hz3 := hB3.size
    (try simp at hz3)
    have hb3_0 : vb.heap.size < v3.heap.size := by omega
    have hc3_0 : vb.heap.size < v3.heap.size + 1 := by omega
    have hb3_1 : v1.heap.size < v3.heap.size := by omega
    have hc3_1 : v1.heap.size < v3.heap.size + 1 := by omega
    have hW3 : Hid (Below w.heap.size w v3) := Lib.hid (by have hX := hW2.out; repeat (first | with_reducible exact Below.refl _ _ | with_reducible assumption | ((with_reducible refine blA ?_ ?_); (focus (first | omega | (simp <;> omega)))) | (with_reducible refine blD ?_) | (with_reducible refine blN ?_) | ((with_reducible refine blS ?_ ?_); (focus (first | omega | (simp <;> omega)))) | ((with_reducible refine blT (by assumption) ?_ ?_); (focus (first | omega | (simp <;> omega))))))
    have hwz3 := hW3.out.size
    clear hB3
    go_wp2_with fail
    refine (MatrixText_yes p q r s _ g1 (HT.out.below (show Below w.heap.size w _ by have hX := hW3.out; repeat (first | with_reducible exact Below.refl _ _ | with_reducible assumption | ((with_reducible refine blA ?_ ?_); (focus (first | omega | (simp <;> omega)))) | (with_reducible refine blD ?_) | (with_reducible refine blN ?_) | ((with_reducible refine blS ?_ ?_); (focus (first | omega | (simp <;> omega)))) | ((with_reducible refine blT (by assumption) ?_ ?_); (focus (first | omega | (simp <;> omega)))))))).mono ?_
    rintro e4 v4 ⟨rfl, hB4⟩
    obtain ⟨hC4, hF4⟩ := bcell hB4
    have hz4 := hB4.size
    (try simp at hz4)
    have hb4_0 : vb.heap.size < v4.heap.size := by omega
    have hc4_0 : vb.heap.size < v4.heap.size + 1 := by omega
    have hW4 : Hid (Below w.heap.size w v4) := Lib.hid (by have hX := hW3.out; repeat (first | with_reducible exact Below.refl _ _ | with_reducible assumption | ((with_reducible refine blA ?_ ?_); (focus (first | omega | (simp <;> omega)))) | (with_reducible refine blD ?_) | (with_reducible refine blN ?_) | ((with_reducible refine blS ?_ ?_); (focus (first | omega | (simp <;> omega)))) | ((with_reducible refine blT (by assumption) ?_ ?_); (focus (first | omega | (simp <;> omega))))))
    have hwz4 := hW4.out.size
    clear hB4
    go_wp2_with fail
    refine (ParseMatrix_back p q r s _ g1 (HE.out.below (show Below w.heap.size w _ by have hX := hW4.out; repeat (first | with_reducible exact Below.refl _ _ | with_reducible assumption | ((with_reducible refine blA ?_ ?_); (focus (first | omega | (simp <;> omega)))) | (with_reducible refine blD ?_) | (with_reducible refine blN ?_) | ((with_reducible refine blS ?_ ?_); (focus (first | omega | (simp <;> omega)))) | ((with_reducible refine blT (by assumption) ?_ ?_); (focus (first | omega | (simp <;> omega))))))) (HT.out.below (show Below w.heap.size w _ by have hX := hW4.out; repeat (first | with_reducible exact Below.refl _ _ | with_reducible assumption | ((with_reducible refine blA ?_ ?_); (focus (first | omega | (simp <;> omega)))) | (with_reducible refine blD ?_) | (with_reducible refine blN ?_) | ((with_reducible refine blS ?_ ?_); (focus (first | omega | (simp <;> omega)))) | ((with_reducible refine blT (by assumption) ?_ ?_); (focus (first | omega | (simp <;> omega)))))))).mono ?_
    rintro e5 v5 ⟨rfl, hB5⟩
    obtain ⟨hC5, hF5⟩ := bcell hB5
    have hz5 := hB5.size
    (try simp at hz5)
    have hb5_0 : vb.heap.size < v5.heap.size := by omega
    have hc5_0 : vb.heap.size < v5.heap.size + 1 := by omega
    have hW5 : Hid (Below w.heap.size w v5) := Lib.hid (by have hX := hW4.out; repeat (first | with_reducible exact Below.refl _ _ | with_reducible assumption | ((with_reducible refine blA ?_ ?_); (focus (first | omega | (simp <;> omega)))) | (with_reducible refine blD ?_) | (with_reducible refine blN ?_) | ((with_reducible refine blS ?_ ?_); (focus (first | omega | (simp <;> omega)))) | ((with_reducible refine blT (by assumption) ?_ ?_); (focus (first | omega | (simp <;> omega))))))
    have hwz5 := hW5.out.size
    clear hB5
    go_wp2_with fail
    refine (drawPolarAt_any a1 len1 cap1 _ (hc1.up (show w.heap.size ≤ _ by simp; omega) (show Below w.heap.size w _ by have hX := hW5.out; repeat (first | with_reducible exact Below.refl _ _ | with_reducible assumption | ((with_reducible refine blA ?_ ?_); (focus (first | omega | (simp <;> omega)))) | (with_reducible refine blD ?_) | (with_reducible refine blN ?_) | ((with_reducible refine blS ?_ ?_); (focus (first | omega | (simp <;> omega)))) | ((with_reducible refine blT (by assumption) ?_ ?_); (focus (first | omega | (simp <;> omega))))))) (by omega)).mono ?_
    rintro e6 v6 ⟨⟨⟨a, b, c⟩, ⟨x, y, u, v⟩, rfl, hI1, hI2⟩, hB6⟩
    have hz6 := hB6.size
    (try simp at hz6)
    have hW6 : Hid (Below w.heap.size w v6) := Lib.hid (by have hX := hW5.out; repeat (first | with_reducible exact Below.refl _ _ | with_reducible assumption | ((with_reducible refine blA ?_ ?_); (focus (first | omega | (simp <;> omega)))) | (with_reducible refine blD ?_) | (with_reducible refine blN ?_) | ((with_reducible refine blS ?_ ?_); (focus (first | omega | (simp <;> omega)))) | ((with_reducible refine blT (by assumption) ?_ ?_); (focus (first | omega | (simp <;> omega))))))
    have hwz6 := hW6.out.size
    clear hB6 hI1 hI2
    by_cases hp : plB a b c x y u v = true
    · have hv : plV a b c x y u v = polW a b c x y u v := if_pos hp
      have k1 : Hid (∀ w0, Calls Tryd.prog 20 #[.agg #[.int .i64 a, .int .i64 b, .int .i64 c], .int .i64 x, .int .i64 y, .int .i64 u, .int .i64 v] w0 fun en w' => en = .returned (.tuple #[.int .i64 (polW a b c x y u v), .bool true]) ∧ Below w0.heap.size w0 w') := fun w0 => by have h := PolarAt_any a b c x y u v w0; rwa [hv, hp] at h
      have k2 : Hid (∀ w0, Calls Tryd.prog 21 #[.agg #[.int .i64 a, .int .i64 b, .int .i64 c], .int .i64 x, .int .i64 y, .int .i64 u, .int .i64 v] w0 fun en w' => en = .returned (.tuple #[.int .i64 (polW a b c x y u v), .bool true]) ∧ Below w0.heap.size w0 w') := fun w0 => by have h := sPolarAt_any a b c x y u v w0; rwa [hv, hp] at h
      obtain ⟨hf, ⟨⟨nx, ny⟩, nu⟩, nv⟩ : formB a b c = true ∧ ((numB x = true ∧ numB y = true) ∧ numB u = true) ∧ numB v = true := by simpa [plB, mB] using hp
      have bx := numB_bd nx
      have by' := numB_bd ny
      have bu := numB_bd nu
      have bv := numB_bd nv
      have hxu : wrap64 (x + u) = x + u := w64 ⟨by have := bx.1; have := bu.1; omega, by have := bx.2; have := bu.2; omega⟩
      have hyv : wrap64 (y + v) = y + v := w64 ⟨by have := by'.1; have := bv.1; omega, by have := by'.2; have := bv.2; omega⟩
      obtain ⟨ba, bb, bc⟩ := formB_bd hf
      have HL : Hid (numB (x + u) = true → numB (y + v) = true → valW a b c (x + u) (y + v) = wrap64 (wrap64 (valW a b c x y + valW a b c u v) + polW a b c x y u v)) := fun h1 h2 => pol_law ba bb bc bx by' bu bv (numB_bd h1) (numB_bd h2)
      clear bx by' bu bv ba bb bc hp hv
      go_wp2_with fail
      refine (k1.out _).mono ?_
      rintro e7 v7 ⟨rfl, hB7⟩
      obtain ⟨hC7, hF7⟩ := bcell hB7
      have hz7 := hB7.size
      (try simp at hz7)
      have hb7_0 : v6.heap.size < v7.heap.size := by omega
      have hc7_0 : v6.heap.size < v7.heap.size + 1 := by omega
      have hW7 : Hid (Below w.heap.size w v7) := Lib.hid (by have hX := hW6.out; repeat (first | with_reducible exact Below.refl _ _ | with_reducible assumption | ((with_reducible refine blA ?_ ?_); (focus (first | omega | (simp <;> omega)))) | (with_reducible refine blD ?_) | (with_reducible refine blN ?_) | ((with_reducible refine blS ?_ ?_); (focus (first | omega | (simp <;> omega)))) | ((with_reducible refine blT (by assumption) ?_ ?_); (focus (first | omega | (simp <;> omega))))))
      have hwz7 := hW7.out.size
      clear hB7
      go_wp2_with fail
      refine (k2.out _).mono ?_
      rintro e8 v8 ⟨rfl, hB8⟩
      obtain ⟨hC8, hF8⟩ := bcell hB8
      have hz8 := hB8.size
      (try simp at hz8)
      have hb8_0 : v6.heap.size < v8.heap.size := by omega
      have hc8_0 : v6.heap.size < v8.heap.size + 1 := by omega
      have hW8 : Hid (Below w.heap.size w v8) := Lib.hid (by have hX := hW7.out; repeat (first | with_reducible exact Below.refl _ _ | with_reducible assumption | ((with_reducible refine blA ?_ ?_); (focus (first | omega | (simp <;> omega)))) | (with_reducible refine blD ?_) | (with_reducible refine blN ?_) | ((with_reducible refine blS ?_ ?_); (focus (first | omega | (simp <;> omega)))) | ((with_reducible refine blT (by assumption) ?_ ?_); (focus (first | omega | (simp <;> omega))))))
      have hwz8 := hW8.out.size
      clear hB8
      go_wp2_with fail
      refine (IsNumber_any (x + u) _).mono ?_
      rintro e9 v9 ⟨rfl, hB9⟩
      obtain ⟨hC9, hF9⟩ := bcell hB9
      have hz9 := hB9.size
      (try simp at hz9)
      have hb9_0 : v6.heap.size < v9.heap.size := by omega
      have hc9_0 : v6.heap.size < v9.heap.size + 1 := by omega
      have hW9 : Hid (Below w.heap.size w v9) := Lib.hid (by have hX := hW8.out; repeat (first | with_reducible exact Below.refl _ _ | with_reducible assumption | ((with_reducible refine blA ?_ ?_); (focus (first | omega | (simp <;> omega)))) | (with_reducible refine blD ?_) | (with_reducible refine blN ?_) | ((with_reducible refine blS ?_ ?_); (focus (first | omega | (simp <;> omega)))) | ((with_reducible refine blT (by assumption) ?_ ?_); (focus (first | omega | (simp <;> omega))))))
      have hwz9 := hW9.out.size
      clear hB9
      by_cases n1 : numB (x + u) = true
      · go_wp2_with fail
        refine (IsNumber_any (y + v) _).mono ?_
        rintro e10 v10 ⟨rfl, hB10⟩
        obtain ⟨hC10, hF10⟩ := bcell hB10
        have hz10 := hB10.size
        (try simp at hz10)
        have hb10_0 : v6.heap.size < v10.heap.size := by omega
        have hc10_0 : v6.heap.size < v10.heap.size + 1 := by omega
        have hW10 : Hid (Below w.heap.size w v10) := Lib.hid (by have hX := hW9.out; repeat (first | with_reducible exact Below.refl _ _ | with_reducible assumption | ((with_reducible refine blA ?_ ?_); (focus (first | omega | (simp <;> omega)))) | (with_reducible refine blD ?_) | (with_reducible refine blN ?_) | ((with_reducible refine blS ?_ ?_); (focus (first | omega | (simp <;> omega)))) | ((with_reducible refine blT (by assumption) ?_ ?_); (focus (first | omega | (simp <;> omega))))))
        have hwz10 := hW10.out.size
        clear hB10
        by_cases n2 : numB (y + v) = true
        · have hl := HL.out n1 n2
          go_wp2_with fail
          refine (ValueAt_yes a b c x y _ hf nx ny).mono ?_
          rintro e11 v11 ⟨rfl, hB11⟩
          obtain ⟨hC11, hF11⟩ := bcell hB11
          have hz11 := hB11.size
          (try simp at hz11)
          have hb11_0 : v6.heap.size < v11.heap.size := by omega
          have hc11_0 : v6.heap.size < v11.heap.size + 1 := by omega
          have hW11 : Hid (Below w.heap.size w v11) := Lib.hid (by have hX := hW10.out; repeat (first | with_reducible exact Below.refl _ _ | with_reducible assumption | ((with_reducible refine blA ?_ ?_); (focus (first | omega | (simp <;> omega)))) | (with_reducible refine blD ?_) | (with_reducible refine blN ?_) | ((with_reducible refine blS ?_ ?_); (focus (first | omega | (simp <;> omega)))) | ((with_reducible refine blT (by assumption) ?_ ?_); (focus (first | omega | (simp <;> omega))))))
          have hwz11 := hW11.out.size
          clear hB11
          go_wp2_with fail
          refine (ValueAt_yes a b c u v _ hf nu nv).mono ?_
          rintro e12 v12 ⟨rfl, hB12⟩
          obtain ⟨hC12, hF12⟩ := bcell hB12
          have hz12 := hB12.size
          (try simp at hz12)
          have hb12_0 : v6.heap.size < v12.heap.size := by omega
          have hc12_0 : v6.heap.size < v12.heap.size + 1 := by omega
          have hW12 : Hid (Below w.heap.size w v12) := Lib.hid (by have hX := hW11.out; repeat (first | with_reducible exact Below.refl _ _ | with_reducible assumption | ((with_reducible refine blA ?_ ?_); (focus (first | omega | (simp <;> omega)))) | (with_reducible refine blD ?_) | (with_reducible refine blN ?_) | ((with_reducible refine blS ?_ ?_); (focus (first | omega | (simp <;> omega)))) | ((with_reducible refine blT (by assumption) ?_ ?_); (focus (first | omega | (simp <;> omega))))))
          have hwz12 := hW12.out.size
          clear hB12
          go_wp2_with fail
          refine (ValueAt_yes a b c (x + u) (y + v) _ hf n1 n2).mono ?_
          rintro e13 v13 ⟨rfl, hB13⟩
          obtain ⟨hC13, hF13⟩ := bcell hB13
          have hz13 := hB13.size
          (try simp at hz13)
          have hb13_0 : v6.heap.size < v13.heap.size := by omega
          have hc13_0 : v6.heap.size < v13.heap.size + 1 := by omega
          have hW13 : Hid (Below w.heap.size w v13) := Lib.hid (by have hX := hW12.out; repeat (first | with_reducible exact Below.refl _ _ | with_reducible assumption | ((with_reducible refine blA ?_ ?_); (focus (first | omega | (simp <;> omega)))) | (with_reducible refine blD ?_) | (with_reducible refine blN ?_) | ((with_reducible refine blS ?_ ?_); (focus (first | omega | (simp <;> omega)))) | ((with_reducible refine blT (by assumption) ?_ ?_); (focus (first | omega | (simp <;> omega))))))
          have hwz13 := hW13.out.size
          clear hB13
          go_wp2_with fail
          refine (FormText_yes a b c _ hf (HT.out.below (show Below w.heap.size w _ by have hX := hW13.out; repeat (first | with_reducible exact Below.refl _ _ | with_reducible assumption | ((with_reducible refine blA ?_ ?_); (focus (first | omega | (simp <;> omega)))) | (with_reducible refine blD ?_) | (with_reducible refine blN ?_) | ((with_reducible refine blS ?_ ?_); (focus (first | omega | (simp <;> omega)))) | ((with_reducible refine blT (by assumption) ?_ ?_); (focus (first | omega | (simp <;> omega)))))))).mono ?_
          rintro e14 v14 ⟨rfl, hB14⟩
          obtain ⟨hC14, hF14⟩ := bcell hB14
          have hz14 := hB14.size
          (try simp at hz14)
          have hb14_0 : v6.heap.size < v14.heap.size := by omega
          have hc14_0 : v6.heap.size < v14.heap.size + 1 := by omega
          have hW14 : Hid (Below w.heap.size w v14) := Lib.hid (by have hX := hW13.out; repeat (first | with_reducible exact Below.refl _ _ | with_reducible assumption | ((with_reducible refine blA ?_ ?_); (focus (first | omega | (simp <;> omega)))) | (with_reducible refine blD ?_) | (with_reducible refine blN ?_) | ((with_reducible refine blS ?_ ?_); (focus (first | omega | (simp <;> omega)))) | ((with_reducible refine blT (by assumption) ?_ ?_); (focus (first | omega | (simp <;> omega))))))
          have hwz14 := hW14.out.size
          clear hB14
          go_wp2_with fail
          refine (ParseForm_back a b c _ hf (HE.out.below (show Below w.heap.size w _ by have hX := hW14.out; repeat (first | with_reducible exact Below.refl _ _ | with_reducible assumption | ((with_reducible refine blA ?_ ?_); (focus (first | omega | (simp <;> omega)))) | (with_reducible refine blD ?_) | (with_reducible refine blN ?_) | ((with_reducible refine blS ?_ ?_); (focus (first | omega | (simp <;> omega)))) | ((with_reducible refine blT (by assumption) ?_ ?_); (focus (first | omega | (simp <;> omega))))))) (HT.out.below (show Below w.heap.size w _ by have hX := hW14.out; repeat (first | with_reducible exact Below.refl _ _ | with_reducible assumption | ((with_reducible refine blA ?_ ?_); (focus (first | omega | (simp <;> omega)))) | (with_reducible refine blD ?_) | (with_reducible refine blN ?_) | ((with_reducible refine blS ?_ ?_); (focus (first | omega | (simp <;> omega)))) | ((with_reducible refine blT (by assumption) ?_ ?_); (focus (first | omega | (simp <;> omega)))))))).mono ?_
          rintro e15 v15 ⟨rfl, hB15⟩
          obtain ⟨hC15, hF15⟩ := bcell hB15
          have hz15 := hB15.size
          (try simp at hz15)
          have hb15_0 : v6.heap.size < v15.heap.size := by omega
          have hc15_0 : v6.heap.size < v15.heap.size + 1 := by omega
          have hW15 : Hid (Below w.heap.size w v15) := Lib.hid (by have hX := hW14.out; repeat (first | with_reducible exact Below.refl _ _ | with_reducible assumption | ((with_reducible refine blA ?_ ?_); (focus (first | omega | (simp <;> omega)))) | (with_reducible refine blD ?_) | (with_reducible refine blN ?_) | ((with_reducible refine blS ?_ ?_); (focus (first | omega | (simp <;> omega)))) | ((with_reducible refine blT (by assumption) ?_ ?_); (focus (first | omega | (simp <;> omega))))))
          have hwz15 := hW15.out.size
          clear hB15
          go_wp2_with fail
          go_ret
          refine ⟨rfl, ?_⟩
          have hX := hW15.out
          repeat (first | with_reducible exact Below.refl _ _ | with_reducible assumption | ((with_reducible refine blA ?_ ?_); (focus (first | omega | (simp <;> omega)))) | (with_reducible refine blD ?_) | (with_reducible refine blN ?_) | ((with_reducible refine blS ?_ ?_); (focus (first | omega | (simp <;> omega)))) | ((with_reducible refine blT (by assumption) ?_ ?_); (focus (first | omega | (simp <;> omega)))))
        · have n2' : numB (y + v) = false := by simpa using n2
          go_wp2_with fail
          go_ret
          refine ⟨rfl, ?_⟩
          have hX := hW10.out
          repeat (first | with_reducible exact Below.refl _ _ | with_reducible assumption | ((with_reducible refine blA ?_ ?_); (focus (first | omega | (simp <;> omega)))) | (with_reducible refine blD ?_) | (with_reducible refine blN ?_) | ((with_reducible refine blS ?_ ?_); (focus (first | omega | (simp <;> omega)))) | ((with_reducible refine blT (by assumption) ?_ ?_); (focus (first | omega | (simp <;> omega)))))
      · have n1' : numB (x + u) = false := by simpa using n1
        go_wp2_with fail
        go_ret
        refine ⟨rfl, ?_⟩
        have hX := hW9.out
        repeat (first | with_reducible exact Below.refl _ _ | with_reducible assumption | ((with_reducible refine blA ?_ ?_); (focus (first | omega | (simp <;> omega)))) | (with_reducible refine blD ?_) | (with_reducible refine blN ?_) | ((with_reducible refine blS ?_ ?_); (focus (first | omega | (simp <;> omega)))) | ((with_reducible refine blT (by assumption) ?_ ?_); (focus (first | omega | (simp <;> omega)))))
    · have hp' : plB a b c x y u v = false := by simpa using hp
      have hv : plV a b c x y u v = 0 := if_neg hp
      have k1 : Hid (∀ w0, Calls Tryd.prog 20 #[.agg #[.int .i64 a, .int .i64 b, .int .i64 c], .int .i64 x, .int .i64 y, .int .i64 u, .int .i64 v] w0 fun en w' => en = .returned (.tuple #[.int .i64 0, .bool false]) ∧ Below w0.heap.size w0 w') := fun w0 => by have h := PolarAt_any a b c x y u v w0; rwa [hv, hp'] at h
      have k2 : Hid (∀ w0, Calls Tryd.prog 21 #[.agg #[.int .i64 a, .int .i64 b, .int .i64 c], .int .i64 x, .int .i64 y, .int .i64 u, .int .i64 v] w0 fun en w' => en = .returned (.tuple #[.int .i64 0, .bool false]) ∧ Below w0.heap.size w0 w') := fun w0 => by have h := sPolarAt_any a b c x y u v w0; rwa [hv, hp'] at h
      clear hp hp' hv
      go_wp2_with fail
      refine (k1.out _).mono ?_
      rintro e16 v16 ⟨rfl, hB16⟩
      obtain ⟨hC16, hF16⟩ := bcell hB16
      have hz16 := hB16.size
      (try simp at hz16)
      have hb16_0 : v6.heap.size < v16.heap.size := by omega
      have hc16_0 : v6.heap.size < v16.heap.size + 1 := by omega
      have hW16 : Hid (Below w.heap.size w v16) := Lib.hid (by have hX := hW6.out; repeat (first | with_reducible exact Below.refl _ _ | with_reducible assumption | ((with_reducible refine blA ?_ ?_); (focus (first | omega | (simp <;> omega)))) | (with_reducible refine blD ?_) | (with_reducible refine blN ?_) | ((with_reducible refine blS ?_ ?_); (focus (first | omega | (simp <;> omega)))) | ((with_reducible refine blT (by assumption) ?_ ?_); (focus (first | omega | (simp <;> omega))))))
      have hwz16 := hW16.out.size
      clear hB16
      go_wp2_with fail
      refine (k2.out _).mono ?_
      rintro e17 v17 ⟨rfl, hB17⟩
      obtain ⟨hC17, hF17⟩ := bcell hB17
      have hz17 := hB17.size
      (try simp at hz17)
      have hb17_0 : v6.heap.size < v17.heap.size := by omega
      have hc17_0 : v6.heap.size < v17.heap.size + 1 := by omega
      have hW17 : Hid (Below w.heap.size w v17) := Lib.hid (by have hX := hW16.out; repeat (first | with_reducible exact Below.refl _ _ | with_reducible assumption | ((with_reducible refine blA ?_ ?_); (focus (first | omega | (simp <;> omega)))) | (with_reducible refine blD ?_) | (with_reducible refine blN ?_) | ((with_reducible refine blS ?_ ?_); (focus (first | omega | (simp <;> omega)))) | ((with_reducible refine blT (by assumption) ?_ ?_); (focus (first | omega | (simp <;> omega))))))
      have hwz17 := hW17.out.size
      clear hB17
      go_wp2_with fail
      go_ret
      refine ⟨rfl, ?_⟩
      have hX := hW17.out
      repeat (first | with_reducible exact Below.refl _ _ | with_reducible assumption | ((with_reducible refine blA ?_ ?_); (focus (first | omega | (simp <;> omega)))) | (with_reducible refine blD ?_) | (with_reducible refine blN ?_) | ((with_reducible refine blS ?_ ?_); (focus (first | omega | (simp <;> omega)))) | ((with_reducible refine blT (by assumption) ?_ ?_); (focus (first | omega | (simp <;> omega)))))
  · have hm' : minB p q r s = false := by simpa using hm
    have hv : minV p q r s = .agg #[.int .i64 0, .int .i64 0, .int .i64 0, .int .i64 0] := if_neg hm
    have c1 : Hid (∀ w0, Calls Tryd.prog 14 #[.agg #[.int .i64 p, .int .i64 q, .int .i64 r, .int .i64 s]] w0 fun en w' => en = .returned (.tuple #[.agg #[.int .i64 0, .int .i64 0, .int .i64 0, .int .i64 0], .bool false]) ∧ Below w0.heap.size w0 w') := fun w0 => by have h := MatrixInverse_any p q r s w0; rwa [hv, hm'] at h
    have c2 : Hid (∀ w0, Calls Tryd.prog 15 #[.agg #[.int .i64 p, .int .i64 q, .int .i64 r, .int .i64 s]] w0 fun en w' => en = .returned (.tuple #[.agg #[.int .i64 0, .int .i64 0, .int .i64 0, .int .i64 0], .bool false]) ∧ Below w0.heap.size w0 w') := fun w0 => by have h := sMatrixInverse_any p q r s w0; rwa [hv, hm'] at h
    clear hv hm hm'
    go_wp2_with fail
    refine (c1.out _).mono ?_
    rintro e18 v18 ⟨rfl, hB18⟩
    obtain ⟨hC18, hF18⟩ := bcell hB18
    have hz18 := hB18.size
    (try simp at hz18)
    have hb18_0 : vb.heap.size < v18.heap.size := by omega
    have hc18_0 : vb.heap.size < v18.heap.size + 1 := by omega
    have hW18 : Hid (Below w.heap.size w v18) := Lib.hid (by have hX := hW0.out; repeat (first | with_reducible exact Below.refl _ _ | with_reducible assumption | ((with_reducible refine blA ?_ ?_); (focus (first | omega | (simp <;> omega)))) | (with_reducible refine blD ?_) | (with_reducible refine blN ?_) | ((with_reducible refine blS ?_ ?_); (focus (first | omega | (simp <;> omega)))) | ((with_reducible refine blT (by assumption) ?_ ?_); (focus (first | omega | (simp <;> omega))))))
    have hwz18 := hW18.out.size
    clear hB18
    go_wp2_with fail
    refine (c2.out _).mono ?_
    rintro e19 v19 ⟨rfl, hB19⟩
    obtain ⟨hC19, hF19⟩ := bcell hB19
    have hz19 := hB19.size
    (try simp at hz19)
    have hb19_0 : vb.heap.size < v19.heap.size := by omega
    have hc19_0 : vb.heap.size < v19.heap.size + 1 := by omega
    have hb19_1 : v18.heap.size < v19.heap.size := by omega
    have hc19_1 : v18.heap.size < v19.heap.size + 1 := by omega
    have hW19 : Hid (Below w.heap.size w v19) := Lib.hid (by have hX := hW18.out; repeat (first | with_reducible exact Below.refl _ _ | with_reducible assumption | ((with_reducible refine blA ?_ ?_); (focus (first | omega | (simp <;> omega)))) | (with_reducible refine blD ?_) | (with_reducible refine blN ?_) | ((with_reducible refine blS ?_ ?_); (focus (first | omega | (simp <;> omega)))) | ((with_reducible refine blT (by assumption) ?_ ?_); (focus (first | omega | (simp <;> omega))))))
    have hwz19 := hW19.out.size
    clear hB19
    go_wp2_with fail
    refine (drawPolarAt_any a1 len1 cap1 _ (hc1.up (show w.heap.size ≤ _ by simp; omega) (show Below w.heap.size w _ by have hX := hW19.out; repeat (first | with_reducible exact Below.refl _ _ | with_reducible assumption | ((with_reducible refine blA ?_ ?_); (focus (first | omega | (simp <;> omega)))) | (with_reducible refine blD ?_) | (with_reducible refine blN ?_) | ((with_reducible refine blS ?_ ?_); (focus (first | omega | (simp <;> omega)))) | ((with_reducible refine blT (by assumption) ?_ ?_); (focus (first | omega | (simp <;> omega))))))) (by omega)).mono ?_
    rintro e20 v20 ⟨⟨⟨a, b, c⟩, ⟨x, y, u, v⟩, rfl, hI1, hI2⟩, hB20⟩
    have hz20 := hB20.size
    (try simp at hz20)
    have hW20 : Hid (Below w.heap.size w v20) := Lib.hid (by have hX := hW19.out; repeat (first | with_reducible exact Below.refl _ _ | with_reducible assumption | ((with_reducible refine blA ?_ ?_); (focus (first | omega | (simp <;> omega)))) | (with_reducible refine blD ?_) | (with_reducible refine blN ?_) | ((with_reducible refine blS ?_ ?_); (focus (first | omega | (simp <;> omega)))) | ((with_reducible refine blT (by assumption) ?_ ?_); (focus (first | omega | (simp <;> omega))))))
    have hwz20 := hW20.out.size
    clear hB20 hI1 hI2
    by_cases hp : plB a b c x y u v = true
    · have hv : plV a b c x y u v = polW a b c x y u v := if_pos hp
      have k1 : Hid (∀ w0, Calls Tryd.prog 20 #[.agg #[.int .i64 a, .int .i64 b, .int .i64 c], .int .i64 x, .int .i64 y, .int .i64 u, .int .i64 v] w0 fun en w' => en = .returned (.tuple #[.int .i64 (polW a b c x y u v), .bool true]) ∧ Below w0.heap.size w0 w') := fun w0 => by have h := PolarAt_any a b c x y u v w0; rwa [hv, hp] at h
      have k2 : Hid (∀ w0, Calls Tryd.prog 21 #[.agg #[.int .i64 a, .int .i64 b, .int .i64 c], .int .i64 x, .int .i64 y, .int .i64 u, .int .i64 v] w0 fun en w' => en = .returned (.tuple #[.int .i64 (polW a b c x y u v), .bool true]) ∧ Below w0.heap.size w0 w') := fun w0 => by have h := sPolarAt_any a b c x y u v w0; rwa [hv, hp] at h
      obtain ⟨hf, ⟨⟨nx, ny⟩, nu⟩, nv⟩ : formB a b c = true ∧ ((numB x = true ∧ numB y = true) ∧ numB u = true) ∧ numB v = true := by simpa [plB, mB] using hp
      have bx := numB_bd nx
      have by' := numB_bd ny
      have bu := numB_bd nu
      have bv := numB_bd nv
      have hxu : wrap64 (x + u) = x + u := w64 ⟨by have := bx.1; have := bu.1; omega, by have := bx.2; have := bu.2; omega⟩
      have hyv : wrap64 (y + v) = y + v := w64 ⟨by have := by'.1; have := bv.1; omega, by have := by'.2; have := bv.2; omega⟩
      obtain ⟨ba, bb, bc⟩ := formB_bd hf
      have HL : Hid (numB (x + u) = true → numB (y + v) = true → valW a b c (x + u) (y + v) = wrap64 (wrap64 (valW a b c x y + valW a b c u v) + polW a b c x y u v)) := fun h1 h2 => pol_law ba bb bc bx by' bu bv (numB_bd h1) (numB_bd h2)
      clear bx by' bu bv ba bb bc hp hv
      go_wp2_with fail
      refine (k1.out _).mono ?_
      rintro e21 v21 ⟨rfl, hB21⟩
      obtain ⟨hC21, hF21⟩ := bcell hB21
      have hz21 := hB21.size
      (try simp at hz21)
      have hb21_0 : v20.heap.size < v21.heap.size := by omega
      have hc21_0 : v20.heap.size < v21.heap.size + 1 := by omega
      have hW21 : Hid (Below w.heap.size w v21) := Lib.hid (by have hX := hW20.out; repeat (first | with_reducible exact Below.refl _ _ | with_reducible assumption | ((with_reducible refine blA ?_ ?_); (focus (first | omega | (simp <;> omega)))) | (with_reducible refine blD ?_) | (with_reducible refine blN ?_) | ((with_reducible refine blS ?_ ?_); (focus (first | omega | (simp <;> omega)))) | ((with_reducible refine blT (by assumption) ?_ ?_); (focus (first | omega | (simp <;> omega))))))
      have hwz21 := hW21.out.size
      clear hB21
      go_wp2_with fail
      refine (k2.out _).mono ?_
      rintro e22 v22 ⟨rfl, hB22⟩
      obtain ⟨hC22, hF22⟩ := bcell hB22
      have hz22 := hB22.size
      (try simp at hz22)
      have hb22_0 : v20.heap.size < v22.heap.size := by omega
      have hc22_0 : v20.heap.size < v22.heap.size + 1 := by omega
      have hW22 : Hid (Below w.heap.size w v22) := Lib.hid (by have hX := hW21.out; repeat (first | with_reducible exact Below.refl _ _ | with_reducible assumption | ((with_reducible refine blA ?_ ?_); (focus (first | omega | (simp <;> omega)))) | (with_reducible refine blD ?_) | (with_reducible refine blN ?_) | ((with_reducible refine blS ?_ ?_); (focus (first | omega | (simp <;> omega)))) | ((with_reducible refine blT (by assumption) ?_ ?_); (focus (first | omega | (simp <;> omega))))))
      have hwz22 := hW22.out.size
      clear hB22
      go_wp2_with fail
      refine (IsNumber_any (x + u) _).mono ?_
      rintro e23 v23 ⟨rfl, hB23⟩
      obtain ⟨hC23, hF23⟩ := bcell hB23
      have hz23 := hB23.size
      (try simp at hz23)
      have hb23_0 : v20.heap.size < v23.heap.size := by omega
      have hc23_0 : v20.heap.size < v23.heap.size + 1 := by omega
      have hW23 : Hid (Below w.heap.size w v23) := Lib.hid (by have hX := hW22.out; repeat (first | with_reducible exact Below.refl _ _ | with_reducible assumption | ((with_reducible refine blA ?_ ?_); (focus (first | omega | (simp <;> omega)))) | (with_reducible refine blD ?_) | (with_reducible refine blN ?_) | ((with_reducible refine blS ?_ ?_); (focus (first | omega | (simp <;> omega)))) | ((with_reducible refine blT (by assumption) ?_ ?_); (focus (first | omega | (simp <;> omega))))))
      have hwz23 := hW23.out.size
      clear hB23
      by_cases n1 : numB (x + u) = true
      · go_wp2_with fail
        refine (IsNumber_any (y + v) _).mono ?_
        rintro e24 v24 ⟨rfl, hB24⟩
        obtain ⟨hC24, hF24⟩ := bcell hB24
        have hz24 := hB24.size
        (try simp at hz24)
        have hb24_0 : v20.heap.size < v24.heap.size := by omega
        have hc24_0 : v20.heap.size < v24.heap.size + 1 := by omega
        have hW24 : Hid (Below w.heap.size w v24) := Lib.hid (by have hX := hW23.out; repeat (first | with_reducible exact Below.refl _ _ | with_reducible assumption | ((with_reducible refine blA ?_ ?_); (focus (first | omega | (simp <;> omega)))) | (with_reducible refine blD ?_) | (with_reducible refine blN ?_) | ((with_reducible refine blS ?_ ?_); (focus (first | omega | (simp <;> omega)))) | ((with_reducible refine blT (by assumption) ?_ ?_); (focus (first | omega | (simp <;> omega))))))
        have hwz24 := hW24.out.size
        clear hB24
        by_cases n2 : numB (y + v) = true
        · have hl := HL.out n1 n2
          go_wp2_with fail
          refine (ValueAt_yes a b c x y _ hf nx ny).mono ?_
          rintro e25 v25 ⟨rfl, hB25⟩
          obtain ⟨hC25, hF25⟩ := bcell hB25
          have hz25 := hB25.size
          (try simp at hz25)
          have hb25_0 : v20.heap.size < v25.heap.size := by omega
          have hc25_0 : v20.heap.size < v25.heap.size + 1 := by omega
          have hW25 : Hid (Below w.heap.size w v25) := Lib.hid (by have hX := hW24.out; repeat (first | with_reducible exact Below.refl _ _ | with_reducible assumption | ((with_reducible refine blA ?_ ?_); (focus (first | omega | (simp <;> omega)))) | (with_reducible refine blD ?_) | (with_reducible refine blN ?_) | ((with_reducible refine blS ?_ ?_); (focus (first | omega | (simp <;> omega)))) | ((with_reducible refine blT (by assumption) ?_ ?_); (focus (first | omega | (simp <;> omega))))))
          have hwz25 := hW25.out.size
          clear hB25
          go_wp2_with fail
          refine (ValueAt_yes a b c u v _ hf nu nv).mono ?_
          rintro e26 v26 ⟨rfl, hB26⟩
          obtain ⟨hC26, hF26⟩ := bcell hB26
          have hz26 := hB26.size
          (try simp at hz26)
          have hb26_0 : v20.heap.size < v26.heap.size := by omega
          have hc26_0 : v20.heap.size < v26.heap.size + 1 := by omega
          have hW26 : Hid (Below w.heap.size w v26) := Lib.hid (by have hX := hW25.out; repeat (first | with_reducible exact Below.refl _ _ | with_reducible assumption | ((with_reducible refine blA ?_ ?_); (focus (first | omega | (simp <;> omega)))) | (with_reducible refine blD ?_) | (with_reducible refine blN ?_) | ((with_reducible refine blS ?_ ?_); (focus (first | omega | (simp <;> omega)))) | ((with_reducible refine blT (by assumption) ?_ ?_); (focus (first | omega | (simp <;> omega))))))
          have hwz26 := hW26.out.size
          clear hB26
          go_wp2_with fail
          refine (ValueAt_yes a b c (x + u) (y + v) _ hf n1 n2).mono ?_
          rintro e27 v27 ⟨rfl, hB27⟩
          obtain ⟨hC27, hF27⟩ := bcell hB27
          have hz27 := hB27.size
          (try simp at hz27)
          have hb27_0 : v20.heap.size < v27.heap.size := by omega
          have hc27_0 : v20.heap.size < v27.heap.size + 1 := by omega
          have hW27 : Hid (Below w.heap.size w v27) := Lib.hid (by have hX := hW26.out; repeat (first | with_reducible exact Below.refl _ _ | with_reducible assumption | ((with_reducible refine blA ?_ ?_); (focus (first | omega | (simp <;> omega)))) | (with_reducible refine blD ?_) | (with_reducible refine blN ?_) | ((with_reducible refine blS ?_ ?_); (focus (first | omega | (simp <;> omega)))) | ((with_reducible refine blT (by assumption) ?_ ?_); (focus (first | omega | (simp <;> omega))))))
          have hwz27 := hW27.out.size
          clear hB27
          go_wp2_with fail
          refine (FormText_yes a b c _ hf (HT.out.below (show Below w.heap.size w _ by have hX := hW27.out; repeat (first | with_reducible exact Below.refl _ _ | with_reducible assumption | ((with_reducible refine blA ?_ ?_); (focus (first | omega | (simp <;> omega)))) | (with_reducible refine blD ?_) | (with_reducible refine blN ?_) | ((with_reducible refine blS ?_ ?_); (focus (first | omega | (simp <;> omega)))) | ((with_reducible refine blT (by assumption) ?_ ?_); (focus (first | omega | (simp <;> omega)))))))).mono ?_
          rintro e28 v28 ⟨rfl, hB28⟩
          obtain ⟨hC28, hF28⟩ := bcell hB28
          have hz28 := hB28.size
          (try simp at hz28)
          have hb28_0 : v20.heap.size < v28.heap.size := by omega
          have hc28_0 : v20.heap.size < v28.heap.size + 1 := by omega
          have hW28 : Hid (Below w.heap.size w v28) := Lib.hid (by have hX := hW27.out; repeat (first | with_reducible exact Below.refl _ _ | with_reducible assumption | ((with_reducible refine blA ?_ ?_); (focus (first | omega | (simp <;> omega)))) | (with_reducible refine blD ?_) | (with_reducible refine blN ?_) | ((with_reducible refine blS ?_ ?_); (focus (first | omega | (simp <;> omega)))) | ((with_reducible refine blT (by assumption) ?_ ?_); (focus (first | omega | (simp <;> omega))))))
          have hwz28 := hW28.out.size
          clear hB28
          go_wp2_with fail
          refine (ParseForm_back a b c _ hf (HE.out.below (show Below w.heap.size w _ by have hX := hW28.out; repeat (first | with_reducible exact Below.refl _ _ | with_reducible assumption | ((with_reducible refine blA ?_ ?_); (focus (first | omega | (simp <;> omega)))) | (with_reducible refine blD ?_) | (with_reducible refine blN ?_) | ((with_reducible refine blS ?_ ?_); (focus (first | omega | (simp <;> omega)))) | ((with_reducible refine blT (by assumption) ?_ ?_); (focus (first | omega | (simp <;> omega))))))) (HT.out.below (show Below w.heap.size w _ by have hX := hW28.out; repeat (first | with_reducible exact Below.refl _ _ | with_reducible assumption | ((with_reducible refine blA ?_ ?_); (focus (first | omega | (simp <;> omega)))) | (with_reducible refine blD ?_) | (with_reducible refine blN ?_) | ((with_reducible refine blS ?_ ?_); (focus (first | omega | (simp <;> omega)))) | ((with_reducible refine blT (by assumption) ?_ ?_); (focus (first | omega | (simp <;> omega)))))))).mono ?_
          rintro e29 v29 ⟨rfl, hB29⟩
          obtain ⟨hC29, hF29⟩ := bcell hB29
          have hz29 := hB29.size
          (try simp at hz29)
          have hb29_0 : v20.heap.size < v29.heap.size := by omega
          have hc29_0 : v20.heap.size < v29.heap.size + 1 := by omega
          have hW29 : Hid (Below w.heap.size w v29) := Lib.hid (by have hX := hW28.out; repeat (first | with_reducible exact Below.refl _ _ | with_reducible assumption | ((with_reducible refine blA ?_ ?_); (focus (first | omega | (simp <;> omega)))) | (with_reducible refine blD ?_) | (with_reducible refine blN ?_) | ((with_reducible refine blS ?_ ?_); (focus (first | omega | (simp <;> omega)))) | ((with_reducible refine blT (by assumption) ?_ ?_); (focus (first | omega | (simp <;> omega))))))
          have hwz29 := hW29.out.size
          clear hB29
          go_wp2_with fail
          go_ret
          refine ⟨rfl, ?_⟩
          have hX := hW29.out
          repeat (first | with_reducible exact Below.refl _ _ | with_reducible assumption | ((with_reducible refine blA ?_ ?_); (focus (first | omega | (simp <;> omega)))) | (with_reducible refine blD ?_) | (with_reducible refine blN ?_) | ((with_reducible refine blS ?_ ?_); (focus (first | omega | (simp <;> omega)))) | ((with_reducible refine blT (by assumption) ?_ ?_); (focus (first | omega | (simp <;> omega)))))
        · have n2' : numB (y + v) = false := by simpa using n2
          go_wp2_with fail
          go_ret
          refine ⟨rfl, ?_⟩
          have hX := hW24.out
          repeat (first | with_reducible exact Below.refl _ _ | with_reducible assumption | ((with_reducible refine blA ?_ ?_); (focus (first | omega | (simp <;> omega)))) | (with_reducible refine blD ?_) | (with_reducible refine blN ?_) | ((with_reducible refine blS ?_ ?_); (focus (first | omega | (simp <;> omega)))) | ((with_reducible refine blT (by assumption) ?_ ?_); (focus (first | omega | (simp <;> omega)))))
      · have n1' : numB (x + u) = false := by simpa using n1
        go_wp2_with fail
        go_ret
        refine ⟨rfl, ?_⟩
        have hX := hW23.out
        repeat (first | with_reducible exact Below.refl _ _ | with_reducible assumption | ((with_reducible refine blA ?_ ?_); (focus (first | omega | (simp <;> omega)))) | (with_reducible refine blD ?_) | (with_reducible refine blN ?_) | ((with_reducible refine blS ?_ ?_); (focus (first | omega | (simp <;> omega)))) | ((with_reducible refine blT (by assumption) ?_ ?_); (focus (first | omega | (simp <;> omega)))))
    · have hp' : plB a b c x y u v = false := by simpa using hp
      have hv : plV a b c x y u v = 0 := if_neg hp
      have k1 : Hid (∀ w0, Calls Tryd.prog 20 #[.agg #[.int .i64 a, .int .i64 b, .int .i64 c], .int .i64 x, .int .i64 y, .int .i64 u, .int .i64 v] w0 fun en w' => en = .returned (.tuple #[.int .i64 0, .bool false]) ∧ Below w0.heap.size w0 w') := fun w0 => by have h := PolarAt_any a b c x y u v w0; rwa [hv, hp'] at h
      have k2 : Hid (∀ w0, Calls Tryd.prog 21 #[.agg #[.int .i64 a, .int .i64 b, .int .i64 c], .int .i64 x, .int .i64 y, .int .i64 u, .int .i64 v] w0 fun en w' => en = .returned (.tuple #[.int .i64 0, .bool false]) ∧ Below w0.heap.size w0 w') := fun w0 => by have h := sPolarAt_any a b c x y u v w0; rwa [hv, hp'] at h
      clear hp hp' hv
      go_wp2_with fail
      refine (k1.out _).mono ?_
      rintro e30 v30 ⟨rfl, hB30⟩
      obtain ⟨hC30, hF30⟩ := bcell hB30
      have hz30 := hB30.size
      (try simp at hz30)
      have hb30_0 : v20.heap.size < v30.heap.size := by omega
      have hc30_0 : v20.heap.size < v30.heap.size + 1 := by omega
      have hW30 : Hid (Below w.heap.size w v30) := Lib.hid (by have hX := hW20.out; repeat (first | with_reducible exact Below.refl _ _ | with_reducible assumption | ((with_reducible refine blA ?_ ?_); (focus (first | omega | (simp <;> omega)))) | (with_reducible refine blD ?_) | (with_reducible refine blN ?_) | ((with_reducible refine blS ?_ ?_); (focus (first | omega | (simp <;> omega)))) | ((with_reducible refine blT (by assumption) ?_ ?_); (focus (first | omega | (simp <;> omega))))))
      have hwz30 := hW30.out.size
      clear hB30
      go_wp2_with fail
      refine (k2.out _).mono ?_
      rintro e31 v31 ⟨rfl, hB31⟩
      obtain ⟨hC31, hF31⟩ := bcell hB31
      have hz31 := hB31.size
      (try simp at hz31)
      have hb31_0 : v20.heap.size < v31.heap.size := by omega
      have hc31_0 : v20.heap.size < v31.heap.size + 1 := by omega
      have hW31 : Hid (Below w.heap.size w v31) := Lib.hid (by have hX := hW30.out; repeat (first | with_reducible exact Below.refl _ _ | with_reducible assumption | ((with_reducible refine blA ?_ ?_); (focus (first | omega | (simp <;> omega)))) | (with_reducible refine blD ?_) | (with_reducible refine blN ?_) | ((with_reducible refine blS ?_ ?_); (focus (first | omega | (simp <;> omega)))) | ((with_reducible refine blT (by assumption) ?_ ?_); (focus (first | omega | (simp <;> omega))))))
      have hwz31 := hW31.out.size
      clear hB31
      go_wp2_with fail
      go_ret
      refine ⟨rfl, ?_⟩
      have hX := hW31.out
      repeat (first | with_reducible exact Below.refl _ _ | with_reducible assumption | ((with_reducible refine blA ?_ ?_); (focus (first | omega | (simp <;> omega)))) | (with_reducible refine blD ?_) | (with_reducible refine blN ?_) | ((with_reducible refine blS ?_ ?_); (focus (first | omega | (simp <;> omega)))) | ((with_reducible refine blT (by assumption) ?_ ?_); (focus (first | omega | (simp <;> omega)))))
end Go.Proofs.YtlfbanoabipacaaDoor
