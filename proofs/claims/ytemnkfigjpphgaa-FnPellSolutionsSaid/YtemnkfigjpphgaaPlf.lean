/-
  What the law on Pell's equation rests on. Plain.
-/
import Derived.Test.YtemnkfigjpphgaaSpp
import Derived.Test.YtemnkfigjpphgaaPellL
namespace Go.Proofs.Ytemnkfigjpphgaa
open Go.RowKit
theorem PP.true {d k x1 x2 : Int} (h : PP d k x1 x2 true) : ∃ T U, PF d T U true ∧ posB d = true ∧ Sol d T U ∧ smallB T U = true ∧ 0 ≤ k ∧ k ≤ 20 ∧ x1 = (pwT d T U k.toNat).1 ∧ x2 = (pwT d T U k.toNat).2 ∧ smallB x1 x2 = true := by
  obtain ⟨T, U, okf, hf, ⟨rfl, k0, k1, h⟩ | ⟨_, _, _, h⟩⟩ := h
  · obtain ⟨hp, hL, hS⟩ := hf.true
    rcases h with ⟨_, e1, e2, h3⟩ | ⟨h, _⟩
    · exact ⟨T, U, hf, hp, hL.1, hL.smallB hS, k0, k1, e1, e2, by rw [e1, e2]; exact h3 _ (Nat.le_refl _)⟩
    · cases h
  · cases h
theorem solB_of {d t u e : Int} (hs : smallB t u = true) (h : t * t - d * u * u = 4 * e) (he : e = 1 ∨ e = -1) : solB d t u = true := by
  unfold solB nrmB
  rw [hs, h]
  rcases he with rfl | rfl <;> decide
theorem plain1 {d k x1 x2 : Int} (h : PP d k x1 x2 true) : ∃ T U, PF d T U true ∧ posB d = true ∧ smallB x1 x2 = true ∧ smallB T U = true ∧ x1 * x1 - d * x2 * x2 = 4 ∧ 0 ≤ k ∧ k ≤ 20 ∧
    ∀ n1 n2, PP d (k + 1) n1 n2 true → ppB d x1 x2 T U = true ∧ pT d x1 x2 T U = n1 ∧ pU x1 x2 T U = n2 := by
  obtain ⟨T, U, hf, hp, hs, hsm, k0, k1, e1, e2, hx⟩ := h.true
  have hd := (posB_true hp).1
  have hn := (pw_sol hd hs k.toNat).1
  rw [← e1, ← e2, ← Int.mul_assoc] at hn
  refine ⟨T, U, hf, hp, hx, hsm, hn, k0, k1, fun n1 n2 h2 => ?_⟩
  obtain ⟨T', U', hf', _, _, _, _, _, f1, f2, hx'⟩ := h2.true
  obtain ⟨rfl, rfl, _⟩ := hf.unique hf'
  have hpw := pw_next hd hs k.toNat
  rw [← e1, ← e2] at hpw
  rw [show (k + 1).toNat = k.toNat + 1 by omega, hpw] at f1 f2
  simp only at f1 f2
  have hT : T * T - d * U * U = 4 := by rw [Int.mul_assoc]; exact hs.2.2
  refine ⟨?_, f1.symm, f2.symm⟩
  unfold ppB
  rw [hp, solB_of (e := 1) hx hn (.inl rfl), solB_of (e := 1) hsm hT (.inl rfl), ← f1, ← f2, hx']
  rfl
theorem plain2 {d T U y1 y2 : Int} (hf : PF d T U true) (h : PM d y1 y2 true) : ppB d y1 y2 y1 y2 = true ∧ pT d y1 y2 y1 y2 = T ∧ pU y1 y2 y1 y2 = U ∧ y1 * y1 - d * y2 * y2 = -4 ∧ smallB y1 y2 = true := by
  obtain ⟨T', U', okf, hf', ⟨rfl, h⟩ | ⟨_, _, _, h⟩⟩ := h
  · obtain ⟨rfl, rfl, _⟩ := hf.unique hf'
    obtain ⟨hp, hL, hS⟩ := hf.true
    rcases pm_some h with ⟨_, t0, u0, e1, e2, e3⟩ | ⟨h, _⟩
    · have hsm : smallB y1 y2 = true := by
        obtain ⟨k1, k2⟩ := le_mul_pos t0 t0
        obtain ⟨k3, k4⟩ := le_mul_pos t0 u0
        have := hS.1
        have := hS.2
        exact (smallB_pos t0 u0).2 ⟨by omega, by omega⟩
      have hpT : pT d y1 y2 y1 y2 = T := by
        unfold pT
        rw [show y1 * y1 + d * y2 * y2 = 2 * T by omega]
        exact Int.mul_tdiv_cancel_left _ (by omega)
      have hpU : pU y1 y2 y1 y2 = U := by
        unfold pU
        rw [show y1 * y2 + y2 * y1 = 2 * U by rw [Int.mul_comm y2 y1]; omega]
        exact Int.mul_tdiv_cancel_left _ (by omega)
      refine ⟨?_, hpT, hpU, e3, hsm⟩
      unfold ppB
      rw [hp, solB_of (e := -1) hsm (by omega) (.inr rfl), hpT, hpU, hL.smallB hS]
      rfl
    · cases h
  · cases h
theorem solB_norm {d t u : Int} (h : solB d t u = true) : smallB t u = true ∧ ∃ e, (e = 1 ∨ e = -1) ∧ t * t - d * u * u = 4 * e := by
  unfold solB nrmB at h
  simp only [Bool.and_eq_true, decide_eq_true_eq] at h
  refine ⟨h.1, ?_⟩
  rcases (show t * t - d * u * u = 4 ∨ t * t - d * u * u = -4 by omega) with e | e
  · exact ⟨1, .inl rfl, by omega⟩
  · exact ⟨-1, .inr rfl, by omega⟩
theorem plain3 {d a1 a2 b1 b2 : Int} (h : ppB d a1 a2 b1 b2 = true) : ∃ e f, (e = 1 ∨ e = -1) ∧ (f = 1 ∨ f = -1) ∧ a1 * a1 - d * a2 * a2 = 4 * e ∧ b1 * b1 - d * b2 * b2 = 4 * f ∧
    pT d a1 a2 b1 b2 * pT d a1 a2 b1 b2 - d * pU a1 a2 b1 b2 * pU a1 a2 b1 b2 = 4 * (e * f) ∧ posB d = true ∧ smallB a1 a2 = true ∧ smallB b1 b2 = true ∧ smallB (pT d a1 a2 b1 b2) (pU a1 a2 b1 b2) = true := by
  unfold ppB at h
  simp only [Bool.and_eq_true] at h
  obtain ⟨⟨⟨hp, ha⟩, hb⟩, hs⟩ := h
  obtain ⟨sa, e, he, na⟩ := solB_norm ha
  obtain ⟨sb, f, hf, nb⟩ := solB_norm hb
  have ma := na
  have mb := nb
  rw [Int.mul_assoc] at ma mb
  obtain ⟨p1, p2⟩ := sol_par ma mb
  have hprod := sol_prod e f ma mb
  refine ⟨e, f, he, hf, na, nb, ?_, hp, sa, sb, hs⟩
  unfold pT pU
  rw [tdiv_even p1, tdiv_even p2, Int.mul_assoc d ((a1 * b2 + a2 * b1) / 2)]
  exact hprod
theorem plain4 {n z1 z2 : Int} (h : PO n z1 z2 true) : z1 * z1 - n * z2 * z2 = 1 ∧ (0 ≤ z1 ∧ z1 ≤ 100000000) ∧ (0 ≤ z2 ∧ z2 ≤ 1000000) ∧ (2 ≤ n ∧ n ≤ 250) := by
  rcases h with ⟨hb, T, hf, rfl⟩ | ⟨_, _, _, h⟩
  · obtain ⟨hp, n1, n2, _⟩ := po_pos hb
    rcases hf with ⟨_, hL, hS⟩ | ⟨h, _⟩
    · obtain ⟨h1, h2, h3⟩ := hL.1
      have he : T % 2 = 0 := by
        rcases (show T % 2 = 0 ∨ T % 2 = 1 by omega) with h | h
        · exact h
        · exfalso
          obtain ⟨m, rfl⟩ : ∃ m, T = 2 * m + 1 := ⟨T / 2, by omega⟩
          have e1 : (2 * m + 1) * (2 * m + 1) = 2 * (2 * (m * m) + 2 * m) + 1 := by grind
          have e2 : 4 * n * (z2 * z2) = 2 * (2 * n * (z2 * z2)) := by grind
          omega
      rw [tdiv_even he]
      obtain ⟨m, rfl⟩ : ∃ m, T = 2 * m := ⟨T / 2, by omega⟩
      rw [show 2 * m / 2 = m by omega]
      have e1 : 2 * m * (2 * m) = 4 * (m * m) := by grind
      have e2 : 4 * n * (z2 * z2) = 4 * (n * z2 * z2) := by grind
      have := hS.1
      have := hS.2
      exact ⟨by omega, ⟨by omega, by omega⟩, ⟨by omega, by omega⟩, n1, n2⟩
    · cases h
  · cases h
theorem norm_W1 {n z1 z2 : Int} (hz1 : 0 ≤ z1 ∧ z1 ≤ 100000000) (hz2 : 0 ≤ z2 ∧ z2 ≤ 1000000) (hn : 2 ≤ n ∧ n ≤ 250) : wrap64 (z1 * z1) = z1 * z1 ∧ wrap64 (n * z2) = n * z2 ∧ wrap64 (n * z2 * z2) = n * z2 * z2 ∧ wrap64 (z1 * z1 - n * z2 * z2) = z1 * z1 - n * z2 * z2 := by
  obtain ⟨x1, x2⟩ := mul_bd (k := 100000000) (m := 100000000) (n := 10000000000000000) (a := z1) (b := z1) ⟨by omega, by omega⟩ ⟨by omega, by omega⟩ (by omega)
  have y := mul_bd (k := 250) (m := 1000000) (n := 250000000) (a := n) (b := z2) ⟨by omega, by omega⟩ ⟨by omega, by omega⟩ (by omega)
  obtain ⟨v1, v2⟩ := mul_bd (k := 250000000) (m := 1000000) (n := 250000000000000) (a := n * z2) (b := z2) y ⟨by omega, by omega⟩ (by omega)
  obtain ⟨y1, y2⟩ := y
  refine ⟨?_, ?_, ?_, ?_⟩ <;> (unfold wrap64; omega)
end Go.Proofs.Ytemnkfigjpphgaa
