/-
  The law FnUnits. (Printed by mkfun.py.)
-/
import Derived.Test.YtemnkfigjpphgaaIrt
import Derived.Test.YtemnkfigjpphgaaCpi
import Derived.Test.YtemnkfigjpphgaaAux
import Derived.Test.YtemnkfigjpphgaaIcl
import Derived.Deep.Cut
namespace Go.Proofs.Ytemnkfigjpphgaa
open Go.RowKit
attribute [local simp, local go_sem] past_cell past_frozen past_tape
theorem qAbs_any (n : Int) (w : World) (h : J64 n) : Calls Try.prog 38 #[.int .i64 n] w fun en w' => en = .returned (.int .i64 (n.natAbs : Int)) ∧ w = w' := by
  obtain ⟨h1, h2⟩ := h
  by_cases hn : n < 0
  · have hd : decide (n < 0) = true := decide_eq_true hn
    have hw : wrap64 (-n) = -n := by unfold wrap64; omega
    have e : (n.natAbs : Int) = -n := by omega
    rw [e]
    go_enter Try.func38, Try.ntmps38
    go_wp2_with fail
    go_ret
    exact ⟨by simp [*], rfl⟩
  · have hd : decide (n < 0) = false := decide_eq_false hn
    have e : (n.natAbs : Int) = n := by omega
    rw [e]
    go_enter Try.func38, Try.ntmps38
    go_wp2_with fail
    go_ret
    exact ⟨rfl, rfl⟩
set_option maxRecDepth 100000 in
set_option maxHeartbeats 40000000 in
theorem law_units (a0 : Option Addr) (len0 cap0 : Nat) (a1 : Option Addr) (len1 cap1 : Nat) (w : World) (hc0 : CodeOk w.heap.size w a0 len0) (hc1 : CodeOk w.heap.size w a1 len1) (hl0 : len0 ≤ 9223372036854775807) (hl1 : len1 ≤ 9223372036854775807) :
    Calls Try.prog 5 #[.slice a0 len0 cap0, .slice a1 len1 cap1] w fun en w' => en = .returned (.bool true) ∧ Below w.heap.size w w' := by
  by_cases hbig : bigB len0 len1 = true
  · go_enter Try.func5, Try.ntmps5
    go_wp2_with fail
    refine (big_any _ _ _ _ _ _ _ hl0 hl1).mono ?_
    rintro e0 w1 ⟨rfl, hB⟩
    go_wp2_with fail
    go_ret
    refine ⟨rfl, ?_⟩
    repeat (first | with_reducible exact Below.refl _ _ | with_reducible assumption | ((with_reducible refine blA ?_ ?_); (focus (first | omega | (simp <;> omega)))) | (with_reducible refine blD ?_) | (with_reducible refine blN ?_) | ((with_reducible refine blS ?_ ?_); (focus (first | omega | (simp <;> omega)))) | ((with_reducible refine blT (by assumption) ?_ ?_); (focus (first | omega | (simp <;> omega)))))
  have hbig' : bigB len0 len1 = false := by simpa using hbig
  have hsm : (len0 : Int) ≤ 1048576 ∧ (len1 : Int) ≤ 1048576 := by
    simp only [bigB, Bool.or_eq_false_iff, decide_eq_false_iff_not] at hbig'
    omega
  have HS0 : len0 ≤ 140737488355328 := by omega
  have HS1 : len1 ≤ 140737488355328 := by omega
  go_enter Try.func5, Try.ntmps5
  go_wp2_with fail
  refine (big_any _ _ _ _ _ _ _ hl0 hl1).mono ?_
  rintro e0 va ⟨rfl, hBa⟩
  have HC1 := Lib.hid (fun (x : World) (h : Below w.heap.size w x) => hc1.up h.size h)
  have hc0' := hc0.up hBa.size hBa
  have hWa := Lib.hid hBa
  have HS := Lib.hid HS1
  clear hBa hsm hl0 hl1 hc0 hc1 HS1
  go_wp2_with fail
  clear hbig hbig'
  refine (drawCycleProduct_any a0 len0 cap0 _ hc0' HS0).mono ?_
  rintro e1 v1 ⟨⟨⟨f1, f2, f3⟩, rfl⟩, hB1⟩
  have hW1 := Lib.hid (hWa.out.trans (hB1.mono hWa.out.size))
  clear hB1 hWa
  obtain ⟨⟨m1, m2, m3, m4⟩, ok, hCP⟩ := CPv.exist (f1, f2, f3)
  have hci := Lib.hid fun w0 => implCycleProduct_any f1 f2 f3 m1 m2 m3 m4 ok w0 hCP
  have hcs := Lib.hid fun w0 => specCycleProduct_any f1 f2 f3 m1 m2 m3 m4 ok w0 hCP
  have HCP := Lib.hid hCP
  clear hCP hc0' HS0
  obtain ⟨y1, ey1, Kf', hY1⟩ : ∃ y1, v1.alloc (.cells #[.int .i64 f1, .int .i64 f2, .int .i64 f3] 36) = y1 ∧ Hid (Blk (v1.heap.size) 36 #[.int .i64 f1, .int .i64 f2, .int .i64 f3] y1) ∧ Hid (Below w.heap.size w y1) := by
    exact ⟨_, rfl, Lib.hid (by have h := Blk.new v1 36 #[.int .i64 f1, .int .i64 f2, .int .i64 f3]; simpa using h), Lib.hid (hW1.out.alloc hW1.out.size _)⟩
  clear hW1
  have Kf := Kf'
  clear Kf'
  have cf := Kf.out.cell
  have lf := Kf.out.lt
  go_wp2_with fail
  try rw [ey1]
  try clear ey1
  refine (hci.out _).mono ?_
  rintro e2 v2 ⟨rfl, hB2⟩
  clear cf lf
  replace Kf := Lib.hid (Kf.out.below hB2)
  have hW2 := Lib.hid (hY1.out.trans (hB2.mono hY1.out.size))
  clear hB2 hY1
  obtain ⟨y2, ey2, Kf', Km', hY2⟩ : ∃ y2, v2.alloc (.cells #[.int .i64 m1, .int .i64 m2, .int .i64 m3, .int .i64 m4] 40) = y2 ∧ Hid (Blk (v1.heap.size) 36 #[.int .i64 f1, .int .i64 f2, .int .i64 f3] y2) ∧ Hid (Blk (v2.heap.size) 40 #[.int .i64 m1, .int .i64 m2, .int .i64 m3, .int .i64 m4] y2) ∧ Hid (Below w.heap.size w y2) := by
    exact ⟨_, rfl, Lib.hid ((Kf.out.alloc _)), Lib.hid (by have h := Blk.new v2 40 #[.int .i64 m1, .int .i64 m2, .int .i64 m3, .int .i64 m4]; simpa using h), Lib.hid (hW2.out.alloc hW2.out.size _)⟩
  clear Kf hW2
  have Kf := Kf'
  have Km := Km'
  clear Kf' Km'
  have cf := Kf.out.cell
  have lf := Kf.out.lt
  have cm := Km.out.cell
  have lm := Km.out.lt
  go_wp2_with fail
  try rw [ey2]
  try clear ey2
  refine (hcs.out _).mono ?_
  rintro e3 v3 ⟨rfl, hB3⟩
  clear cf lf cm lm
  replace Kf := Lib.hid (Kf.out.below hB3)
  replace Km := Lib.hid (Km.out.below hB3)
  have hW3 := Lib.hid (hY2.out.trans (hB3.mono hY2.out.size))
  clear hB3 hY2
  obtain ⟨y3, ey3, Kf', Km', Kn', hY3⟩ : ∃ y3, v3.alloc (.cells #[.int .i64 m1, .int .i64 m2, .int .i64 m3, .int .i64 m4] 40) = y3 ∧ Hid (Blk (v1.heap.size) 36 #[.int .i64 f1, .int .i64 f2, .int .i64 f3] y3) ∧ Hid (Blk (v2.heap.size) 40 #[.int .i64 m1, .int .i64 m2, .int .i64 m3, .int .i64 m4] y3) ∧ Hid (Blk (v3.heap.size) 40 #[.int .i64 m1, .int .i64 m2, .int .i64 m3, .int .i64 m4] y3) ∧ Hid (Below w.heap.size w y3) := by
    exact ⟨_, rfl, Lib.hid ((Kf.out.alloc _)), Lib.hid ((Km.out.alloc _)), Lib.hid (by have h := Blk.new v3 40 #[.int .i64 m1, .int .i64 m2, .int .i64 m3, .int .i64 m4]; simpa using h), Lib.hid (hW3.out.alloc hW3.out.size _)⟩
  clear Kf Km hW3
  have Kf := Kf'
  have Km := Km'
  have Kn := Kn'
  clear Kf' Km' Kn'
  have cf := Kf.out.cell
  have lf := Kf.out.lt
  have cm := Km.out.cell
  have lm := Km.out.lt
  have cn := Kn.out.cell
  have ln := Kn.out.lt
  clear hci hcs
  go_upto_if 52 with fail
  try rw [ey3]
  try clear ey3
  go_cut [] from 5 (fun wx => Hid (Below w.heap.size w wx))
  case first =>
    cases ok with
    | false =>
      go_wp2_with fail
      go_meet
      case rel => exact hY3
    | true =>
      obtain ⟨hi, hm, hdet, hfm, hunit⟩ := HCP.out.good
      have hf : formB f1 f2 f3 = true := by have h := hi; simp only [indB, Bool.and_eq_true] at h; exact h.1
      have hsub := Lib.hid fun w0 => substitute_yes (f1, f2, f3) (f1, f2, f3) (m1, m2, m3, m4) w0 hf hf hm hfm
      have hdt := Lib.hid fun w0 => determinant_yes (m1, m2, m3, m4) w0 hm hdet
      have hprim := Lib.hid fun w0 => isPrimitive_yes f1 f2 f3 w0 hi
      simp only at hsub hdt
      have HI := Lib.hid hi
      have HM := Lib.hid hm
      have HU := Lib.hid hunit
      clear hi hm hdet hfm hunit hf HCP
      go_wp2_with fail
      refine (hsub.out _).mono ?_
      rintro e4 v4 ⟨rfl, hB4⟩
      clear cf lf cm lm cn ln
      replace Kf := Lib.hid (Kf.out.below hB4)
      replace Km := Lib.hid (Km.out.below hB4)
      replace Kn := Lib.hid (Kn.out.below hB4)
      have hW4 := Lib.hid (hY3.out.trans (hB4.mono hY3.out.size))
      clear hB4 hY3
      obtain ⟨y4, ey4, Kf', Km', Kn', Kg', hY4⟩ : ∃ y4, v4.alloc (.cells #[.int .i64 f1, .int .i64 f2, .int .i64 f3] 36) = y4 ∧ Hid (Blk (v1.heap.size) 36 #[.int .i64 f1, .int .i64 f2, .int .i64 f3] y4) ∧ Hid (Blk (v2.heap.size) 40 #[.int .i64 m1, .int .i64 m2, .int .i64 m3, .int .i64 m4] y4) ∧ Hid (Blk (v3.heap.size) 40 #[.int .i64 m1, .int .i64 m2, .int .i64 m3, .int .i64 m4] y4) ∧ Hid (Blk (v4.heap.size) 36 #[.int .i64 f1, .int .i64 f2, .int .i64 f3] y4) ∧ Hid (Below w.heap.size w y4) := by
        exact ⟨_, rfl, Lib.hid ((Kf.out.alloc _)), Lib.hid ((Km.out.alloc _)), Lib.hid ((Kn.out.alloc _)), Lib.hid (by have h := Blk.new v4 36 #[.int .i64 f1, .int .i64 f2, .int .i64 f3]; simpa using h), Lib.hid (hW4.out.alloc hW4.out.size _)⟩
      clear Kf Km Kn hW4
      have Kf := Kf'
      have Km := Km'
      have Kn := Kn'
      have Kg := Kg'
      clear Kf' Km' Kn' Kg'
      have cf := Kf.out.cell
      have lf := Kf.out.lt
      have cm := Km.out.cell
      have lm := Km.out.lt
      have cn := Kn.out.cell
      have ln := Kn.out.lt
      have cg := Kg.out.cell
      have lg := Kg.out.lt
      go_wp2_with fail
      try rw [ey4]
      try clear ey4
      refine (hdt.out _).mono ?_
      rintro e5 v5 ⟨rfl, hB5⟩
      clear cf lf cm lm cn ln cg lg
      replace Kf := Lib.hid (Kf.out.below hB5)
      replace Km := Lib.hid (Km.out.below hB5)
      replace Kn := Lib.hid (Kn.out.below hB5)
      replace Kg := Lib.hid (Kg.out.below hB5)
      have hW5 := Lib.hid (hY4.out.trans (hB5.mono hY4.out.size))
      clear hB5 hY4
      have cf := Kf.out.cell
      have lf := Kf.out.lt
      have cm := Km.out.cell
      have lm := Km.out.lt
      have cn := Kn.out.cell
      have ln := Kn.out.lt
      have cg := Kg.out.cell
      have lg := Kg.out.lt
      go_wp2_with fail
      refine (hprim.out _).mono ?_
      rintro e6 v6 ⟨rfl, hB6⟩
      clear cf lf cm lm cn ln cg lg
      replace Kf := Lib.hid (Kf.out.below hB6)
      replace Km := Lib.hid (Km.out.below hB6)
      replace Kn := Lib.hid (Kn.out.below hB6)
      replace Kg := Lib.hid (Kg.out.below hB6)
      have hW6 := Lib.hid (hW5.out.trans (hB6.mono hW5.out.size))
      clear hB6 hW5
      have cf := Kf.out.cell
      have lf := Kf.out.lt
      have cm := Km.out.cell
      have lm := Km.out.lt
      have cn := Kn.out.cell
      have ln := Kn.out.lt
      have cg := Kg.out.cell
      have lg := Kg.out.lt
      clear hsub hdt hprim
      cases hpr : priB f1 f2 f3 with
      | false =>
        clear hpr
        go_wp2_with fail
        go_meet
        case rel => exact hW6
      | true =>
        obtain ⟨p, U, hL, hmu⟩ := HU.out (priB_ind hpr).2
        have hane : (f1, f2, f3).1 ≠ 0 := (outer (ind_gd HI.out).root).1
        obtain ⟨hA, hno⟩ := au_cycle (f := (f1, f2, f3)) (ind_posF HI.out) hane hL HM.out hmu
        obtain ⟨⟨p1, p2, p3, p4⟩, hp⟩ : ∃ M, autM (f1, f2, f3) p U = M := ⟨_, rfl⟩
        rw [hp] at hA hmu
        obtain ⟨x1, x2, x3, x4⟩ := HM.out
        simp only at x1 x2 x3 x4
        have hin := Lib.hid fun w0 => implIndef_any f1 f2 f3 1 p1 p2 p3 p4 true w0 (.inl ⟨hpr, by omega, by omega, hA⟩)
        by_cases hpm : ((p1, p2, p3, p4) : Mt) = (m1, m2, m3, m4)
        · have hau := Lib.hid fun w0 => automorphExponent_yes f1 f2 f3 m1 m2 m3 m4 p1 p2 p3 p4 1 w0 hpr HM.out hA hno (.inl ⟨rfl, hpm⟩)
          simp only [Prod.mk.injEq] at hpm
          obtain ⟨rfl, rfl, rfl, rfl⟩ := hpm
          have y1 : wrap64 p1 = p1 := by unfold wrap64; omega
          have y2 : wrap64 p2 = p2 := by unfold wrap64; omega
          have y3 : wrap64 p3 = p3 := by unfold wrap64; omega
          have y4 : wrap64 p4 = p4 := by unfold wrap64; omega
          have hq := Lib.hid fun w0 => qAbs_any 1 w0 ⟨by omega, by omega⟩
          clear hA hno hp hmu hL hane HU HM x1 x2 x3 x4 hpr HI
          go_wp2_with fail
          refine (hau.out _).mono ?_
          rintro e7 v7 ⟨rfl, hB7⟩
          clear cf lf cm lm cn ln cg lg
          replace Kf := Lib.hid (Kf.out.below hB7)
          replace Km := Lib.hid (Km.out.below hB7)
          replace Kn := Lib.hid (Kn.out.below hB7)
          replace Kg := Lib.hid (Kg.out.below hB7)
          have hW7 := Lib.hid (hW6.out.trans (hB7.mono hW6.out.size))
          clear hB7 hW6
          have cf := Kf.out.cell
          have lf := Kf.out.lt
          have cm := Km.out.cell
          have lm := Km.out.lt
          have cn := Kn.out.cell
          have ln := Kn.out.lt
          have cg := Kg.out.cell
          have lg := Kg.out.lt
          go_wp2_with fail
          refine (hin.out _).mono ?_
          rintro e8 v8 ⟨rfl, hB8⟩
          clear cf lf cm lm cn ln cg lg
          replace Kf := Lib.hid (Kf.out.below hB8)
          replace Km := Lib.hid (Km.out.below hB8)
          replace Kn := Lib.hid (Kn.out.below hB8)
          replace Kg := Lib.hid (Kg.out.below hB8)
          have hW8 := Lib.hid (hW7.out.trans (hB8.mono hW7.out.size))
          clear hB8 hW7
          obtain ⟨y8, ey8, Kf', Km', Kn', Kg', Kq', hY8⟩ : ∃ y8, v8.alloc (.cells #[.int .i64 p1, .int .i64 p2, .int .i64 p3, .int .i64 p4] 40) = y8 ∧ Hid (Blk (v1.heap.size) 36 #[.int .i64 f1, .int .i64 f2, .int .i64 f3] y8) ∧ Hid (Blk (v2.heap.size) 40 #[.int .i64 p1, .int .i64 p2, .int .i64 p3, .int .i64 p4] y8) ∧ Hid (Blk (v3.heap.size) 40 #[.int .i64 p1, .int .i64 p2, .int .i64 p3, .int .i64 p4] y8) ∧ Hid (Blk (v4.heap.size) 36 #[.int .i64 f1, .int .i64 f2, .int .i64 f3] y8) ∧ Hid (Blk (v8.heap.size) 40 #[.int .i64 p1, .int .i64 p2, .int .i64 p3, .int .i64 p4] y8) ∧ Hid (Below w.heap.size w y8) := by
            exact ⟨_, rfl, Lib.hid ((Kf.out.alloc _)), Lib.hid ((Km.out.alloc _)), Lib.hid ((Kn.out.alloc _)), Lib.hid ((Kg.out.alloc _)), Lib.hid (by have h := Blk.new v8 40 #[.int .i64 p1, .int .i64 p2, .int .i64 p3, .int .i64 p4]; simpa using h), Lib.hid (hW8.out.alloc hW8.out.size _)⟩
          clear Kf Km Kn Kg hW8
          have Kf := Kf'
          have Km := Km'
          have Kn := Kn'
          have Kg := Kg'
          have Kq := Kq'
          clear Kf' Km' Kn' Kg' Kq'
          have cf := Kf.out.cell
          have lf := Kf.out.lt
          have cm := Km.out.cell
          have lm := Km.out.lt
          have cn := Kn.out.cell
          have ln := Kn.out.lt
          have cg := Kg.out.cell
          have lg := Kg.out.lt
          have cq := Kq.out.cell
          have lq := Kq.out.lt
          clear hau hin
          go_wp2_with (first | (go_at_call 38; refine (hq.out _).mono ?_; rintro e w' ⟨rfl, rfl⟩))
          try rw [ey8]
          go_meet
          case rel => exact hY8
        · have hneg : mneg (p1, p2, p3, p4) = (m1, m2, m3, m4) := by
            rcases hmu with h | h
            · exact absurd h.symm hpm
            · exact h.symm
          have hau := Lib.hid fun w0 => automorphExponent_yes f1 f2 f3 m1 m2 m3 m4 p1 p2 p3 p4 (-1) w0 hpr HM.out hA hno (.inr ⟨rfl, hpm, hneg⟩)
          simp only [mneg, Prod.mk.injEq] at hneg
          obtain ⟨h1, h2, h3, h4⟩ := hneg
          have y1 : wrap64 (-m1) = p1 := by unfold wrap64; omega
          have y2 : wrap64 (-m2) = p2 := by unfold wrap64; omega
          have y3 : wrap64 (-m3) = p3 := by unfold wrap64; omega
          have y4 : wrap64 (-m4) = p4 := by unfold wrap64; omega
          have z1 : wrap64 (-1 * m1) = p1 := by rw [show -1 * m1 = -m1 by omega]; exact y1
          have z2 : wrap64 (-1 * m2) = p2 := by rw [show -1 * m2 = -m2 by omega]; exact y2
          have z3 : wrap64 (-1 * m3) = p3 := by rw [show -1 * m3 = -m3 by omega]; exact y3
          have z4 : wrap64 (-1 * m4) = p4 := by rw [show -1 * m4 = -m4 by omega]; exact y4
          have hq := Lib.hid fun w0 => qAbs_any 1 w0 ⟨by omega, by omega⟩
          have hq2 : Hid (∀ w0, Calls Try.prog 38 #[.int .i64 (-1)] w0 fun e w' => e = .returned (.int .i64 1) ∧ w0 = w') := Lib.hid fun w0 => qAbs_any (-1) w0 ⟨by omega, by omega⟩
          clear h1 h2 h3 h4 hA hno hp hmu hL hane HU HM x1 x2 x3 x4 hpr HI hpm
          go_wp2_with fail
          refine (hau.out _).mono ?_
          rintro e9 v9 ⟨rfl, hB9⟩
          clear cf lf cm lm cn ln cg lg
          replace Kf := Lib.hid (Kf.out.below hB9)
          replace Km := Lib.hid (Km.out.below hB9)
          replace Kn := Lib.hid (Kn.out.below hB9)
          replace Kg := Lib.hid (Kg.out.below hB9)
          have hW9 := Lib.hid (hW6.out.trans (hB9.mono hW6.out.size))
          clear hB9 hW6
          have cf := Kf.out.cell
          have lf := Kf.out.lt
          have cm := Km.out.cell
          have lm := Km.out.lt
          have cn := Kn.out.cell
          have ln := Kn.out.lt
          have cg := Kg.out.cell
          have lg := Kg.out.lt
          go_wp2_with fail
          refine (hin.out _).mono ?_
          rintro e10 v10 ⟨rfl, hB10⟩
          clear cf lf cm lm cn ln cg lg
          replace Kf := Lib.hid (Kf.out.below hB10)
          replace Km := Lib.hid (Km.out.below hB10)
          replace Kn := Lib.hid (Kn.out.below hB10)
          replace Kg := Lib.hid (Kg.out.below hB10)
          have hW10 := Lib.hid (hW9.out.trans (hB10.mono hW9.out.size))
          clear hB10 hW9
          obtain ⟨y10, ey10, Kf', Km', Kn', Kg', Kq', hY10⟩ : ∃ y10, v10.alloc (.cells #[.int .i64 p1, .int .i64 p2, .int .i64 p3, .int .i64 p4] 40) = y10 ∧ Hid (Blk (v1.heap.size) 36 #[.int .i64 f1, .int .i64 f2, .int .i64 f3] y10) ∧ Hid (Blk (v2.heap.size) 40 #[.int .i64 m1, .int .i64 m2, .int .i64 m3, .int .i64 m4] y10) ∧ Hid (Blk (v3.heap.size) 40 #[.int .i64 m1, .int .i64 m2, .int .i64 m3, .int .i64 m4] y10) ∧ Hid (Blk (v4.heap.size) 36 #[.int .i64 f1, .int .i64 f2, .int .i64 f3] y10) ∧ Hid (Blk (v10.heap.size) 40 #[.int .i64 p1, .int .i64 p2, .int .i64 p3, .int .i64 p4] y10) ∧ Hid (Below w.heap.size w y10) := by
            exact ⟨_, rfl, Lib.hid ((Kf.out.alloc _)), Lib.hid ((Km.out.alloc _)), Lib.hid ((Kn.out.alloc _)), Lib.hid ((Kg.out.alloc _)), Lib.hid (by have h := Blk.new v10 40 #[.int .i64 p1, .int .i64 p2, .int .i64 p3, .int .i64 p4]; simpa using h), Lib.hid (hW10.out.alloc hW10.out.size _)⟩
          clear Kf Km Kn Kg hW10
          have Kf := Kf'
          have Km := Km'
          have Kn := Kn'
          have Kg := Kg'
          have Kq := Kq'
          clear Kf' Km' Kn' Kg' Kq'
          have cf := Kf.out.cell
          have lf := Kf.out.lt
          have cm := Km.out.cell
          have lm := Km.out.lt
          have cn := Kn.out.cell
          have ln := Kn.out.lt
          have cg := Kg.out.cell
          have lg := Kg.out.lt
          have cq := Kq.out.cell
          have lq := Kq.out.lt
          clear hau hin
          go_wp2_with (first | (go_at_call 38; refine (hq.out _).mono ?_; rintro e w' ⟨rfl, rfl⟩) | (go_at_call 38; refine (hq2.out _).mono ?_; rintro e w' ⟨rfl, rfl⟩))
          try rw [ey10]
          go_meet
          case rel => exact hY10
  case rest =>
  clear Kf Km Kn cf lf cm lm cn ln HCP
  have hW9 := hcut
  clear hcut
  go_wp2_with fail
  refine (drawIndefiniteAutomorph_any a1 len1 cap1 _ (HC1.out _ hW9.out) HS.out).mono ?_
  rintro e11 v11 ⟨⟨⟨r1, r2, r3⟩, k, rfl⟩, hB11⟩
  have hW11 := Lib.hid (hW9.out.trans (hB11.mono hW9.out.size))
  clear hB11 hW9
  obtain ⟨⟨n1, n2, n3, n4⟩, one, hIV⟩ := IV.exist (r1, r2, r3) k
  have hci := Lib.hid fun w0 => implIndef_any r1 r2 r3 k n1 n2 n3 n4 one w0 hIV
  have hcs := Lib.hid fun w0 => specIndef_any r1 r2 r3 k n1 n2 n3 n4 one w0 hIV
  have HIV := Lib.hid hIV
  clear hIV
  obtain ⟨y11, ey11, Ku', hY11⟩ : ∃ y11, v11.alloc (.cells #[.int .i64 r1, .int .i64 r2, .int .i64 r3] 36) = y11 ∧ Hid (Blk (v11.heap.size) 36 #[.int .i64 r1, .int .i64 r2, .int .i64 r3] y11) ∧ Hid (Below w.heap.size w y11) := by
    exact ⟨_, rfl, Lib.hid (by have h := Blk.new v11 36 #[.int .i64 r1, .int .i64 r2, .int .i64 r3]; simpa using h), Lib.hid (hW11.out.alloc hW11.out.size _)⟩
  clear hW11
  have Ku := Ku'
  clear Ku'
  have cu := Ku.out.cell
  have lu := Ku.out.lt
  go_wp2_with fail
  try rw [ey11]
  try clear ey11
  refine (hci.out _).mono ?_
  rintro e12 v12 ⟨rfl, hB12⟩
  clear cu lu
  replace Ku := Lib.hid (Ku.out.below hB12)
  have hW12 := Lib.hid (hY11.out.trans (hB12.mono hY11.out.size))
  clear hB12 hY11
  obtain ⟨y12, ey12, Ku', Ka', hY12⟩ : ∃ y12, v12.alloc (.cells #[.int .i64 n1, .int .i64 n2, .int .i64 n3, .int .i64 n4] 40) = y12 ∧ Hid (Blk (v11.heap.size) 36 #[.int .i64 r1, .int .i64 r2, .int .i64 r3] y12) ∧ Hid (Blk (v12.heap.size) 40 #[.int .i64 n1, .int .i64 n2, .int .i64 n3, .int .i64 n4] y12) ∧ Hid (Below w.heap.size w y12) := by
    exact ⟨_, rfl, Lib.hid ((Ku.out.alloc _)), Lib.hid (by have h := Blk.new v12 40 #[.int .i64 n1, .int .i64 n2, .int .i64 n3, .int .i64 n4]; simpa using h), Lib.hid (hW12.out.alloc hW12.out.size _)⟩
  clear Ku hW12
  have Ku := Ku'
  have Ka := Ka'
  clear Ku' Ka'
  have cu := Ku.out.cell
  have lu := Ku.out.lt
  have ca := Ka.out.cell
  have la := Ka.out.lt
  go_wp2_with fail
  try rw [ey12]
  try clear ey12
  refine (hcs.out _).mono ?_
  rintro e13 v13 ⟨rfl, hB13⟩
  clear cu lu ca la
  replace Ku := Lib.hid (Ku.out.below hB13)
  replace Ka := Lib.hid (Ka.out.below hB13)
  have hW13 := Lib.hid (hY12.out.trans (hB13.mono hY12.out.size))
  clear hB13 hY12
  obtain ⟨y13, ey13, Ku', Ka', Kb', hY13⟩ : ∃ y13, v13.alloc (.cells #[.int .i64 n1, .int .i64 n2, .int .i64 n3, .int .i64 n4] 40) = y13 ∧ Hid (Blk (v11.heap.size) 36 #[.int .i64 r1, .int .i64 r2, .int .i64 r3] y13) ∧ Hid (Blk (v12.heap.size) 40 #[.int .i64 n1, .int .i64 n2, .int .i64 n3, .int .i64 n4] y13) ∧ Hid (Blk (v13.heap.size) 40 #[.int .i64 n1, .int .i64 n2, .int .i64 n3, .int .i64 n4] y13) ∧ Hid (Below w.heap.size w y13) := by
    exact ⟨_, rfl, Lib.hid ((Ku.out.alloc _)), Lib.hid ((Ka.out.alloc _)), Lib.hid (by have h := Blk.new v13 40 #[.int .i64 n1, .int .i64 n2, .int .i64 n3, .int .i64 n4]; simpa using h), Lib.hid (hW13.out.alloc hW13.out.size _)⟩
  clear Ku Ka hW13
  have Ku := Ku'
  have Ka := Ka'
  have Kb := Kb'
  clear Ku' Ka' Kb'
  have cu := Ku.out.cell
  have lu := Ku.out.lt
  have ca := Ka.out.cell
  have la := Ka.out.lt
  have cb := Kb.out.cell
  have lb := Kb.out.lt
  clear hci hcs
  cases one with
  | false =>
    go_wp2_with fail
    try rw [ey13]
    go_ret
    refine ⟨rfl, ?_⟩
    have hX := hY13.out
    repeat (first | with_reducible exact Below.refl _ _ | with_reducible assumption | ((with_reducible refine blA ?_ ?_); (focus (first | omega | (simp <;> omega)))) | (with_reducible refine blD ?_) | (with_reducible refine blN ?_) | ((with_reducible refine blS ?_ ?_); (focus (first | omega | (simp <;> omega)))) | ((with_reducible refine blT (by assumption) ?_ ?_); (focus (first | omega | (simp <;> omega)))))
  | true =>
    obtain ⟨hi, hm, hfm⟩ := HIV.out.good
    have hf : formB r1 r2 r3 = true := by have h := hi; simp only [indB, Bool.and_eq_true] at h; exact h.1
    have hsub := Lib.hid fun w0 => substitute_yes (r1, r2, r3) (r1, r2, r3) (n1, n2, n3, n4) w0 hf hf hm hfm
    simp only at hsub
    clear hi hm hfm hf HIV
    go_wp2_with fail
    try rw [ey13]
    try clear ey13
    refine (hsub.out _).mono ?_
    rintro e14 v14 ⟨rfl, hB14⟩
    clear cu lu ca la cb lb
    replace Ku := Lib.hid (Ku.out.below hB14)
    replace Ka := Lib.hid (Ka.out.below hB14)
    replace Kb := Lib.hid (Kb.out.below hB14)
    have hW14 := Lib.hid (hY13.out.trans (hB14.mono hY13.out.size))
    clear hB14 hY13
    obtain ⟨y14, ey14, Ku', Ka', Kb', Kg', hY14⟩ : ∃ y14, v14.alloc (.cells #[.int .i64 r1, .int .i64 r2, .int .i64 r3] 36) = y14 ∧ Hid (Blk (v11.heap.size) 36 #[.int .i64 r1, .int .i64 r2, .int .i64 r3] y14) ∧ Hid (Blk (v12.heap.size) 40 #[.int .i64 n1, .int .i64 n2, .int .i64 n3, .int .i64 n4] y14) ∧ Hid (Blk (v13.heap.size) 40 #[.int .i64 n1, .int .i64 n2, .int .i64 n3, .int .i64 n4] y14) ∧ Hid (Blk (v14.heap.size) 36 #[.int .i64 r1, .int .i64 r2, .int .i64 r3] y14) ∧ Hid (Below w.heap.size w y14) := by
      exact ⟨_, rfl, Lib.hid ((Ku.out.alloc _)), Lib.hid ((Ka.out.alloc _)), Lib.hid ((Kb.out.alloc _)), Lib.hid (by have h := Blk.new v14 36 #[.int .i64 r1, .int .i64 r2, .int .i64 r3]; simpa using h), Lib.hid (hW14.out.alloc hW14.out.size _)⟩
    clear Ku Ka Kb hW14
    have Ku := Ku'
    have Ka := Ka'
    have Kb := Kb'
    have Kg := Kg'
    clear Ku' Ka' Kb' Kg'
    have cu := Ku.out.cell
    have lu := Ku.out.lt
    have ca := Ka.out.cell
    have la := Ka.out.lt
    have cb := Kb.out.cell
    have lb := Kb.out.lt
    have cg := Kg.out.cell
    have lg := Kg.out.lt
    clear hsub
    go_wp2_with fail
    try rw [ey14]
    go_ret
    refine ⟨rfl, ?_⟩
    have hX := hY14.out
    repeat (first | with_reducible exact Below.refl _ _ | with_reducible assumption | ((with_reducible refine blA ?_ ?_); (focus (first | omega | (simp <;> omega)))) | (with_reducible refine blD ?_) | (with_reducible refine blN ?_) | ((with_reducible refine blS ?_ ?_); (focus (first | omega | (simp <;> omega)))) | ((with_reducible refine blT (by assumption) ?_ ?_); (focus (first | omega | (simp <;> omega)))))
end Go.Proofs.Ytemnkfigjpphgaa
